/- The plain laws for OnlineOnce. -/
import Derived.Test.YtpdhjildhjpjdaaGreatXFns
import Derived.Test.YtpdhjildhjpjdaaGreatGRows
import Derived.Lib.RowBridge
import Derived.Test.YtpdhjildhjpjdaaGreatXRm
import Derived.WideShapes
import Derived.ChangeShapes
namespace Gx
open Go Gd
set_option linter.unusedVariables false
set_option linter.unusedSimpArgs false
theorem Jn5{α:Type}{l:List α}{i:Nat}(h:i<l.length):idx l (i:Int)=some l[i]:=Jmy (List.getElem?_eq_getElem h)
theorem Jkz(a b:Nat):((max a b:Nat):Int)=max (a:Int) (b:Int):=by omega
def W{α:Type}(o:Option α)(R:α→Prop):Prop:=∃r,o=some r∧R r
class WP{α:Type}(o:Option α)(T:outParam ((α→Prop)→Prop)):Prop where
 spec:∀R,T R→W o R
class WPf{α β:Type}(f:α→Option β)(T:outParam (α→(β→Prop)→Prop)):Prop where
 spec:∀a R,T a R→W (f a) R
theorem wp{α:Type}{o:Option α}{T:(α→Prop)→Prop}[h:WP o T]{R:α→Prop}(k:T R):W o R:=h.spec R k
theorem W.mono{α:Type}{o:Option α}{R S:α→Prop}(h:W o R)(k:∀r,R r→S r):W o S:=let⟨r,e,hr⟩:=h; ⟨r,e,k r hr⟩
theorem Qg3{α:Type}{o:Option α}{P:Prop}{Q:α→Prop}(h:P→W o Q):WP o (fun R=>P∧∀r,Q r→R r):=⟨fun R k=>(h k.1).mono k.2⟩
instance wpSome {α:Type} (a:α):WP (some a) (fun R=>R a):=⟨fun R h=>⟨a,rfl,h⟩⟩
instance wpNone {α:Type}:WP (none:Option α) (fun _=>False):=⟨fun _ h=>h.elim⟩
instance wpIte {α:Type} {c:Prop} [Decidable c] {a b:Option α} {A B:(α→Prop)→Prop} [ha:WP a A] [hb:WP b B]:WP (if c then a else b) (fun R=>(c→A R)∧(¬ c→B R)):=⟨fun R h=>by
 split
 ·rename_i hc; exact ha.spec R (h.1 hc)
 ·rename_i hc; exact hb.spec R (h.2 hc)⟩
instance wpBind {α β:Type} {o:Option α} {f:α→Option β} {A:(α→Prop)→Prop} {B:α→(β→Prop)→Prop} [ha:WP o A] [hb:WPf f B]:WP (o.bind f) (fun R=>A fun r=>B r R):=⟨fun R h=>by
 obtain⟨r,e,hr⟩:=ha.spec _ h
 rw[e]; exact hb.spec r R hr⟩
instance (priority:=1100) wpAnd {β:Type} {c:Prop} [Decidable c] {a:Option Bool} {f:Bool→Option β} {A:(Bool→Prop)→Prop} {B C:(β→Prop)→Prop} [ha:WP a A] [hb:WP (f true) B] [hc:WP (f false) C] :
  WP ((if c then a else some false).bind f) (fun R=>(c→A fun b=>b=true→B R)∧(c→A fun _=>True)∧C R):=⟨fun R h=>by
 by_cases h0:c
 ·rw[if_pos h0]
  obtain⟨r,e,hr⟩:=ha.spec _ (h.1 h0)
  rw[e]
  cases r with
  | true=>exact hb.spec R (hr rfl)
  | false=>exact hc.spec R h.2.2
 ·rw[if_neg h0]; exact hc.spec R h.2.2⟩
instance (priority:=1100) wpOr {β:Type} {c:Prop} [Decidable c] {a:Option Bool} {f:Bool→Option β} {A:(Bool→Prop)→Prop} {B C:(β→Prop)→Prop} [ha:WP a A] [hb:WP (f true) B] [hc:WP (f false) C] :
  WP ((if c then some true else a).bind f) (fun R=>(¬ c→A fun b=>b=false→C R)∧(¬ c→A fun _=>True)∧B R):=⟨fun R h=>by
 by_cases h0:c
 ·rw[if_pos h0]; exact hb.spec R h.2.2
 ·rw[if_neg h0]
  obtain⟨r,e,hr⟩:=ha.spec _ (h.1 h0)
  rw[e]
  cases r with
  | true=>exact hb.spec R h.2.2
  | false=>exact hc.spec R (hr rfl)⟩
instance (priority:=1200) wpBindT {α β:Type} {a b:Option α} {f:α→Option β} {A:(β→Prop)→Prop} [ha:WP (a.bind f) A]:WP ((if true=true then a else b).bind f) A:=⟨fun R h=>by rw [if_pos rfl]; exact ha.spec R h⟩
instance (priority:=1200) wpBindF {α β:Type} {a b:Option α} {f:α→Option β} {A:(β→Prop)→Prop} [ha:WP (b.bind f) A]:WP ((if false=true then a else b).bind f) A:=⟨fun R h=>by rw [if_neg (by decide)]; exact ha.spec R h⟩
instance (priority:=1200) wpIteT {α:Type} {a b:Option α} {A:(α→Prop)→Prop} [ha:WP a A]:WP (if true=true then a else b) A:=⟨fun R h=>by rw [if_pos rfl]; exact ha.spec R h⟩
instance (priority:=1200) wpIteF {α:Type} {a b:Option α} {A:(α→Prop)→Prop} [ha:WP b A]:WP (if false=true then a else b) A:=⟨fun R h=>by rw [if_neg (by decide)]; exact ha.spec R h⟩
instance (priority:=1000) wpfVar {α β:Type} {f:α→Option β} {T:α→(β→Prop)→Prop} [h:∀a,WP (f a) (T a)]:WPf f T:=⟨fun a R k=>(h a).spec R k⟩
instance (priority:=900) wpfSum {α β γ:Type} {f:α⊕β→Option γ} {A:α→(γ→Prop)→Prop} {B:β→(γ→Prop)→Prop} [ha:WPf (fun a=>f (.inl a)) A] [hb:WPf (fun b=>f (.inr b)) B] :
  WPf f (fun s R=>(∀a,s=.inl a→A a R)∧(∀b,s=.inr b→B b R)):=⟨fun s R k=>by
 cases s with
 | inl a=>exact ha.spec a R (k.1 a rfl)
 | inr b=>exact hb.spec b R (k.2 b rfl)⟩
instance (priority:=850) wpfPairSum {α β γ δ:Type} {f:(α⊕β)×γ→Option δ} {A:α→γ→(δ→Prop)→Prop} {B:β→γ→(δ→Prop)→Prop} [ha:∀a,WPf (fun c=>f (.inl a,c)) (A a)] [hb:∀b,WPf (fun c=>f (.inr b,c)) (B b)] :
  WPf f (fun p R=>(∀a,p.1=.inl a→A a p.2 R)∧(∀b,p.1=.inr b→B b p.2 R)):=⟨fun p R k=>by
 obtain⟨s,c⟩:=p
 cases s with
 | inl a=>exact(ha a).spec c R (k.1 a rfl)
 | inr b=>exact(hb b).spec c R (k.2 b rfl)⟩
instance (priority:=800) wpfPair {α β γ:Type} {f:α×β→Option γ} {A:α→β→(γ→Prop)→Prop} [h:∀a,WPf (fun b=>f (a,b)) (A a)]:WPf f (fun p R=>A p.1 p.2 R):=⟨fun p R k=>(h p.1).spec p.2 R k⟩
class Sz(α:Type) where
 sz:α→Nat
open Sz
instance:Sz Int:=⟨fun _=>0⟩
instance:Sz Bool:=⟨fun _=>0⟩
instance:Sz Unit:=⟨fun _=>0⟩
instance {α β:Type} [Sz α] [Sz β]:Sz (α×β):=⟨fun p=>max (sz p.1) (sz p.2)⟩
instance {α β:Type} [Sz α] [Sz β]:Sz (α⊕β):=⟨fun p=>match p with | .inl a=>sz a | .inr b=>sz b⟩
def szL{α:Type}[Sz α]:List α→Nat
 | []=>0
 | x::l=>max (sz x) (szL l)
instance {α:Type} [Sz α]:Sz (List α):=⟨fun l=>max l.length (szL l)⟩
instance (priority:=2000) szStr:Sz (List UInt8):=⟨fun _=>0⟩
mutual
def rsz{α:Type}:K8 α→Nat
 | .mk _ ks=>max ks.length (Jfn ks)
def Jfn{α:Type}:List (K8 α)→Nat
 | []=>0
 | x::l=>max (rsz x) (Jfn l)
end
instance {α:Type}:Sz (K8 α):=⟨rsz⟩
theorem Jk0(x:Int):sz x=0:=rfl
section
variable {α β:Type} [Sz α] [Sz β]
theorem Qqy(p:α×β):sz p=max (sz p.1) (sz p.2):=rfl
theorem Ua{l:List α}:l.length≤sz l:=Nat.le_max_left _ _
theorem Js3{l:List α}:szL l≤sz l:=Nat.le_max_right _ _
theorem Jcl:∀{l:List α} {x:α},x∈l→sz x≤szL l
 | y::l,x,h=>by
  rcases QJ.1 h with rfl | h
  ·exact Nat.le_max_left _ _
  ·exact QW (Jcl h) (Nat.le_max_right _ _)
theorem Jk1{l:List α}{x:α}(h:x∈l):sz x≤sz l:=QW (Jcl h) Js3
theorem Qz1{K:Nat}:∀{l:List α},(∀x∈l,sz x≤K)→szL l≤K
 | [],_=>QO _
 | x::l,h=>XO.2 ⟨h x (.head _),Qz1 fun y hy=>h y (.tail _ hy)⟩
theorem Q49{K:Nat}{l:List α}(hl:l.length≤K)(h:∀x∈l,sz x≤K):sz l≤K:=XO.2 ⟨hl,Qz1 h⟩
theorem Jk2{l m:List α}(hl:l.length≤m.length)(h:∀x∈l,x∈m):sz l≤sz m:=Q49 (QW hl Ua) fun x hx=>Jk1 (h x hx)
theorem Js4:sz ([]:List α)=0:=rfl
theorem Qt1:∀l m:List α,szL (l++m)=max (szL l) (szL m)
 | [],m=>by simp[szL]
 | x::l,m=>by simp only[QB,szL,Qt1 l m]; omega
theorem Jfo(l m:List α):sz (l++m)=max (l.length+m.length) (max (sz l) (sz m)):=by
 show max (l++m).length (szL (l++m))=max _ (max (max l.length (szL l)) (max m.length (szL m)))
 rw[List.length_append,Qt1]; omega
theorem Qdq(x:α)(l:List α):sz (x::l)=max (l.length+1) (max (sz x) (sz l)):=by
 show max (l.length+1) (max (sz x) (szL l))=max _ (max _ (max l.length (szL l)))
 omega
theorem Jcm:∀(l:List α) (i:Nat) (x:α),szL (l.set i x)≤max (szL l) (sz x)
 | [],i,x=>QO _
 | y::l,0,x=>by simp only[List.set_cons_zero,szL]; omega
 | y::l,i+1,x=>by
  have:=Jcm l i x
  simp only[List.set_cons_succ,szL]; omega
theorem Qdr(l:List α)(i:Nat)(x:α):sz (l.set i x)≤max (sz l) (sz x):=by
 have h1:=Jcm l i x
 show max (l.set i x).length (szL (l.set i x))≤max (max l.length (szL l)) (sz x)
 rw[List.length_set]; omega
theorem Jk3{α:Type}{e:K8 α}:sz e.ks≤sz e:=by
 have:∀l:List (K8 α),szL l=Jfn l:=fun l=>by
  induction l with
  | nil=>rfl
  | cons x l ih=>simp only[szL,Jfn,ih]; rfl
 cases e with
 | mk x ks =>
  show max ks.length (szL ks)≤rsz (.mk x ks)
  rw[this]; simp only[rsz]; exact QU _
end
class Qg4(α:Type)[Sz α]:Prop where
 flat:∀x:α,sz x=0
instance:Qg4 Int:=⟨fun _=>rfl⟩
instance:Qg4 Bool:=⟨fun _=>rfl⟩
instance (priority:=2000):Qg4 (List UInt8):=⟨fun _=>rfl⟩
instance {α β:Type} [Sz α] [Sz β] [ha:Qg4 α] [hb:Qg4 β]:Qg4 (α×β):=⟨fun x=>by rw [Qqy,ha.flat,hb.flat]; rfl⟩
theorem Qhn{α:Type}[Sz α][h:Qg4 α](l:List α):sz l=l.length:=by
 have:szL l≤0:=Qz1 fun x _=>Nat.le_of_eq (h.flat x)
 show max l.length (szL l)=l.length
 omega
structure Nu{α:Type}(P:α→Prop)(l:List α)(v:Int):Prop where
 at_:∀j:Nat,(j:Int)<v→∀a,l[j]?=some a→P a
theorem V4{α:Type}{P:α→Prop}{l:List α}:Nu P l 0:=⟨fun j h=>by omega⟩
theorem Rk{α:Type}{P:α→Prop}{l:List α}{v:Int}{x:α}(h0:0≤v)(h:Nu P l v)(hx:l[v.toNat]?=some x)(px:P x):Nu P l (v+1):=⟨fun j hj a ha=>by
 by_cases hjv:(j:Int)<v
 ·exact h.at_ j hjv a ha
 ·have:j=v.toNat:=by omega
  subst this; rw[hx]at ha; exact Option.some.inj ha▸px⟩
theorem Qho{α:Type}{P:α→Prop}{l:List α}{v:Int}(h:Nu P l v)(hl:l.length≤v):∀a∈l,P a:=fun a ha=>by
 obtain⟨i,hi,e⟩:=List.getElem_of_mem ha
 exact h.at_ i (by omega) a (by rw[List.getElem?_eq_getElem hi,e])
theorem Qz2{α:Type}[Sz α]{B:Int}{l:List α}(h:∀y∈l,(sz y:Int)≤B)(h0:0≤B):(szL l:Int)≤B:=by
 have:=Qz1 (K:=B.toNat) fun x hx=>by have:=h x hx; omega
 omega
theorem Rl{α:Type}[Sz α](l:List α):sz l=max l.length (szL l):=rfl
class Sh(α:Type) where
 sh:α→Prop
open Sh
instance:Sh Int:=⟨fun _=>True⟩
instance:Sh Bool:=⟨fun _=>True⟩
instance:Sh Unit:=⟨fun _=>True⟩
instance {α β:Type} [Sh α] [Sh β]:Sh (α×β):=⟨fun p=>sh p.1∧sh p.2⟩
instance {α β:Type} [Sh α] [Sh β]:Sh (α⊕β):=⟨fun p=>match p with | .inl a=>sh a | .inr b=>sh b⟩
structure ShL{α:Type}[Sh α](l:List α):Prop where
 all:∀x∈l,sh x
instance {α:Type} [Sh α]:Sh (List α):=⟨ShL⟩
instance (priority:=2000) shStr:Sh (List UInt8):=⟨fun s=>s.length≤9223372036854775807⟩
instance {α:Type}:Sh (K8 α):=⟨fun _=>True⟩
theorem Jk4{α:Type}[Sh α]{l:List α}{x:α}(h:x∈l)(hl:sh l):sh x:=hl.all x h
theorem Qg5{x:List UInt8}(h:sh x):x.length≤9223372036854775807:=h
theorem Jfp{α:Type}[Sh α](l m:List α):sh (l++m)=(sh l∧sh m):=propext ⟨fun h=>⟨⟨fun x hx=>h.all x (List.mem_append_left _ hx)⟩,⟨fun x hx=>h.all x (List.mem_append_right _ hx)⟩⟩,fun h=>⟨fun x hx=>(QX.1 hx).elim (h.1.all x) (h.2.all x)⟩⟩
theorem Jn6{α:Type}[Sh α](x:α)(l:List α):sh (x::l)=(sh x∧sh l):=propext ⟨fun h=>⟨h.all x (.head _),⟨fun y hy=>h.all y (.tail _ hy)⟩⟩,fun h=>⟨fun y hy=>(QJ.1 hy).elim (fun e=>e▸h.1) (h.2.all y)⟩⟩
theorem Qki{α:Type}[Sh α]{l:List α}{i:Nat}{x:α}(hl:sh l)(hx:sh x):sh (l.set i x):=⟨fun y hy=>(ZQ hy).elim (hl.all y) (fun e=>e▸hx)⟩
theorem Qds{α:Type}[Sz α]{K:Int}{l:List α}{i:Nat}{x:α}(h1:(sz l:Int)≤K)(h2:(sz x:Int)≤K):((sz (l.set i x):Nat):Int)≤K:=by
 have:=Qdr l i x
 omega
theorem Qhp{α:Type}[Sz α]{K:Nat}{l:List α}{i:Nat}{x:α}(h1:sz l≤K)(h2:sz x≤K):sz (l.set i x)≤K:=by
 have:=Qdr l i x
 omega
section
variable {V:Type} [Sz V]
theorem Ip(key:Int)(v:V):∀m:List (Int×V),sz (Qz (k:=.int .i64) key v m:List (Int×V))≤max (sz m+1) (sz v)
 | []=>by
  show sz [((key,v):Int×V)]≤_
  rw[Qdq,Qqy]; simp only[Jk0,Js4,JY]; omega
 | x::m=>by
  have ih:=Ip key v m
  unfold Qz
  cases h:eqK (.int .i64) key x.1 with
  | true =>
   show sz ((key,v)::m:List (Int×V))≤_
   rw[Qdq,Qdq,Qqy]; simp only[Jk0]; omega
  | false =>
   show sz (x::(Qz (k:=.int .i64) key v m:List (Int×V)))≤_
   rw[Qdq,Qdq]
   have:=Ua (l:=(Qz (k:=.int .i64) key v m:List (Int×V)))
   have h2:(Qz (k:=.int .i64) key v m:List (Int×V)).length≤m.length+1:=by
    clear ih h this
    induction m with
    | nil=>exact QU _
    | cons y m ih =>
     unfold Qz
     cases eqK (.int .i64) key y.1 with
     | true=>exact XC _
     | false=>exact XX ih
   omega
theorem Gi{W:Type}(key:Int)(v:W):∀m:List (Int×W),(Qz (k:=.int .i64) key v m).length≤m.length+1
 | []=>QU _
 | x::m=>by
  have ih:=Gi key v m
  unfold Qz
  cases eqK (.int .i64) key x.1 with
  | true=>exact XC _
  | false=>exact XX ih
theorem L4{W:Type}(key:Str)(v:W):∀m:List (Str×W),(Qz (k:=.str) key v m).length≤m.length+1
 | []=>QU _
 | x::m=>by
  have ih:=L4 key v m
  unfold Qz
  cases eqK .str key x.1 with
  | true=>exact XC _
  | false=>exact XX ih
theorem L5{W:Type}(key:Str):∀m:List (Str×W),(F0 (k:=.str) key m).length≤m.length
 | []=>QU _
 | x::m=>by
  have ih:=L5 key m
  unfold F0
  cases eqK .str key x.1 with
  | true=>exact XC _
  | false=>exact XX ih
theorem Cp{W:Type}(key:Int):∀m:List (Int×W),(F0 (k:=.int .i64) key m).length≤m.length
 | []=>QU _
 | x::m=>by
  have ih:=Cp key m
  unfold F0
  cases eqK (.int .i64) key x.1 with
  | true=>exact XC _
  | false=>exact XX ih
theorem Q5a{W:Type}{key:Int}{y:Int×W}:∀{m:List (Int×W)},y∈(F0 (k:=.int .i64) key m:List (Int×W))→y∈m
 | x::m,h=>by
  unfold F0 at h
  cases hk:eqK (.int .i64) key x.1 with
  | true=>rw[hk]at h; exact .tail _ h
  | false =>
   rw[hk]at h
   rcases QJ.1 h with h | h
   ·exact h▸.head _
   ·exact .tail _ (Q5a h)
theorem Qdt(key:Int)(m:List (Int×V)):sz (F0 (k:=.int .i64) key m:List (Int×V))≤sz m:=Jk2 (Cp key m) fun _ h=>Q5a h
theorem Cq(key:Int)(d:V):∀m:List (Int×V),sz ((Qh (k:=.int .i64) key m).getD d)≤max (sz m) (sz d)
 | []=>Nat.le_max_right _ _
 | x::m=>by
  have ih:=Cq key d m
  unfold Qh
  rw[Qdq,Qqy]
  cases eqK (.int .i64) key x.1 with
  | true=>show sz x.2≤_; omega
  | false=>show sz ((Qh (k:=.int .i64) key m).getD d)≤_; omega
end
theorem Qb7(x:Int):eqK (.int .i64) x x=true:=by simp[eqK]
theorem Qi9(x:Str):eqK .str x x=true:=by simp[eqK]
class Ig(N:Nat):Prop where
 le:18446744073709551616≤N
section
variable {α β σ τ:Type}
instance wpIdx [Sz α] [Sh α] {l:List α} {i:Int}:WP (idx l i) (fun R=>(0≤i∧i<l.length)∧∀x,x∈l→sz x≤sz l→(Sh.sh l→Sh.sh x)→l[i.toNat]?=some x→R x):=⟨fun R h=>by
 obtain⟨⟨h0,h1⟩,hR⟩:=h
 have hi:i.toNat<l.length:=by omega
 have hm:l[i.toNat]∈l:=List.getElem_mem hi
 refine⟨l[i.toNat],?_,hR _ hm (Jk1 hm) (Jk4 hm) (List.getElem?_eq_getElem hi)⟩
 unfold idx
 rw[if_pos h0,List.getElem?_eq_getElem hi]⟩
instance wpSidx {s:Str} {i:Int}:WP (Bk s i) (fun R=>(0≤i∧i<s.length)∧∀x,0≤x→x<256→R x):=⟨fun R h=>by
 obtain⟨⟨h0,h1⟩,hR⟩:=h
 have hi:i.toNat<s.length:=by omega
 refine⟨((s[i.toNat]).toNat:Int),?_,hR _ (by omega) (by have:=UInt8.toNat_lt s[i.toNat]; omega)⟩
 unfold Bk idx
 rw[if_pos h0,List.getElem?_eq_getElem hi]; rfl⟩
instance wpSlc [Sz α] [Sh α] {l:List α} {a b:Int}:WP (slc l a b) (fun R=>(0≤a∧a≤b∧b≤l.length)∧∀s,(s.length:Int)=b - a→(∀x∈s,x∈l)→sz s≤sz l→(Sh.sh l→Sh.sh s)→R s):=⟨fun R h=>by
 obtain⟨⟨h0,h1,h2⟩,hR⟩:=h
 have hlen:(((l.drop a.toNat).take (b - a).toNat).length:Int)=b - a:=by rw[List.length_take,List.length_drop]; omega
 have hm:∀x∈(l.drop a.toNat).take (b - a).toNat,x∈l:=fun x hx=>List.mem_of_mem_drop (ZD hx)
 refine⟨(l.drop a.toNat).take (b - a).toNat,?_,hR _ hlen hm (Jk2 (by rw[List.length_take,List.length_drop]; omega) hm) (fun h=>⟨fun x hx=>h.all x (hm x hx)⟩)⟩
 unfold slc
 rw[if_pos ⟨h0,h1,h2⟩]⟩
instance wpApp {b:Nat} {l m:List α}:WP (app b l m) (fun R=>(l.length+m.length)*b≤140737488355328∧R (l++m)):=⟨fun R h=>⟨l++m,by unfold app; rw [if_pos h.1],h.2⟩⟩
instance wpMkL {b:Nat} {l c:Int} {z:α}:WP (mkL b l c z) (fun R=>(0≤l∧l≤c∧(b:Int)*c≤281474976710656)∧R (List.replicate l.toNat z)):=⟨fun R h=>⟨_,by unfold mkL; rw [if_pos h.1],h.2⟩⟩
instance wpQuo {k:IntKind} {x y:Int}:WP (Q77 k x y) (fun R=>y≠0∧R (k.wrap (x.tdiv y))):=⟨fun R h=>⟨_,by unfold Q77; rw [if_neg h.1],h.2⟩⟩
instance wpRem {x y:Int}:WP (Jhn x y) (fun R=>y≠0∧R (x.tmod y)):=⟨fun R h=>⟨_,by unfold Jhn; rw [if_neg h.1],h.2⟩⟩
instance wpShr {k:IntKind} {x y:Int}:WP (Jho k x y) (fun R=>0≤y∧∀r,R r):=⟨fun R h=>⟨_,by unfold Jho; rw [if_neg (by omega)],h.2 _⟩⟩
instance wpShl {k:IntKind} {x y:Int}:WP (Jdr k x y) (fun R=>0≤y∧∀r,R r):=⟨fun R h=>⟨_,by unfold Jdr; rw [if_neg (by omega)],h.2 _⟩⟩
instance wpScat {a b:Str}:WP (Jmr a b) (fun R=>a.length+b.length≤9223372036854775807∧R (a++b)):=⟨fun R h=>⟨_,by unfold Jmr; rw [if_pos h.1],h.2⟩⟩
instance wpChk {b:Bool}:WP (chk b) (fun R=>b=true∧R ()):=⟨fun R h=>⟨(),by rw [h.1]; rfl,h.2⟩⟩
theorem Js5{f:σ→α→Option σ}{es:List α}(I:Int→σ→Prop)(step:∀(n:Int) s e,e∈es→0≤n→n<es.length→I n s→W (f s e) (I (n+1))){s:σ}:WP (Qoy f es s) (fun R=>I 0 s∧∀r,I es.length r→R r):=Qg3 fun h=>by
 have main:∀(l:List α) (n:Int) (s:σ),(∀e∈l,e∈es)→0≤n→n+l.length=es.length→I n s→W (Qoy f l s) (I es.length):=by
  intro l
  induction l with
  | nil=>intro n s hm h0 hn hI; exact⟨s,rfl,by rw[←hn]; simpa using hI⟩
  | cons x l ih =>
   intro n s hm h0 hn hI
   simp only[List.length_cons]at hn
   obtain⟨s1,e1,h1⟩:=step n s x (hm x (.head _)) h0 (by omega) hI
   show W ((f s x).bind fun s'=>Qoy f l s') _
   rw[e1]
   exact ih (n+1) s1 (fun e he=>hm e (.tail _ he)) (by omega) (by omega) h1
 exact main es 0 s (fun _ h=>h) (JT _) (by simp) h
theorem Q9g{f:σ→Option (σ⊕τ)}{N:Nat}[hN:Ig N](μ:σ→Nat)(I:σ→Prop)(Q:τ→Prop)(hμ:∀s,I s→μ s<18446744073709551616)
  (step:∀s,I s→W (f s) fun r=>match r with | .inl s'=>I s'∧μ s'<μ s | .inr t=>Q t) (s:σ):WP (Qm f N s) (fun R=>I s∧∀r,Q r→R r):=Qg3 fun h=>by
 have main:∀(k n:Nat) (s:σ),I s→μ s≤k→k<n→W (Qm f n s) Q:=by
  intro k
  induction k with
  | zero =>
   intro n s hI hk hn
   obtain⟨m,rfl⟩:∃m,n=m+1:=⟨n - 1,by omega⟩
   obtain⟨r,e,hr⟩:=step s hI
   cases r with
   | inl s'=>exact absurd hr.2 (by omega)
   | inr t=>exact⟨t,by simp[Qm,e],hr⟩
  | succ k ih =>
   intro n s hI hk hn
   obtain⟨m,rfl⟩:∃m,n=m+1:=⟨n - 1,by omega⟩
   obtain⟨r,e,hr⟩:=step s hI
   cases r with
   | inl s' =>
    obtain⟨t,e2,ht⟩:=ih m s' hr.1 (by have:=hr.2; omega) (by omega)
    exact⟨t,by simp[Qm,e,e2],ht⟩
   | inr t=>exact⟨t,by simp[Qm,e],hr⟩
 exact main (μ s) N s h (QU _) (QA (hμ s h) hN.le)
theorem ss:(∀(p:Prop) [Decidable p],(decide p=true)=p)∧(∀(p:Prop) [Decidable p],(decide p=false)=¬ p)∧(∀b:Bool,(¬ b=true)=(b=false))∧(∀a b:Bool,((a&&b)=true)=(a=true∧b=true))∧(∀a b:Bool,((a||b)=true)=(a=true∨b=true)) ∧
  (∀b:Bool,((!b)=true)=(b=false))∧(∀b:Bool,((!b)=false)=(b=true))∧(∀a b:Bool,((a&&b)=false)=(a=true→b=false))∧(∀a b:Bool,((a||b)=false)=(a=false∧b=false)) ∧
  (∀a b:Int,((a==b)=true)=(a=b))∧(∀a b:Int,((a==b)=false)=¬ a=b)∧(∀a b:Int,((a != b)=true)=¬ a=b)∧(∀a b:Int,((a != b)=false)=(a=b))∧(∀p q:Prop,(¬ (p∧q))=(p→¬ q))∧(∀p q:Prop,(¬ (p∨q))=(¬ p∧¬ q)):=by
 refine⟨?_,?_,?_,?_,?_,?_,?_,?_,?_,?_,?_,?_,?_,?_,?_⟩
 all_goals intros
 all_goals simp
theorem sz1:(∀(α β:Type) [Sz α] [Sz β] (p:α×β),sz p=max (sz p.1) (sz p.2))∧(∀x:Int,sz x=0)∧(∀x:Bool,sz x=0)∧(∀x:Unit,sz x=0)∧(∀x:List UInt8,sz x=0)∧(∀(α β:Type) [Sz α] [Sz β] (a:α),sz (Sum.inl a:α⊕β)=sz a) ∧
  (∀(α β:Type) [Sz α] [Sz β] (b:β),sz (Sum.inr b:α⊕β)=sz b)∧(∀(α:Type) [Sz α] [Qg4 α] (l:List α),sz l=l.length) ∧
  (∀(α:Type) [Sz α] (l m:List α),sz (l++m)=max (l.length+m.length) (max (sz l) (sz m)))∧(∀(α:Type) [Sz α] (x:α) (l:List α),sz (x::l)=max (l.length+1) (max (sz x) (sz l)))∧(∀(α:Type) [Sz α],sz ([]:List α)=0) :=
 ⟨fun _ _ _ _ _=>rfl,fun _=>rfl,fun _=>rfl,fun _=>rfl,fun _=>rfl,fun _ _ _ _ _=>rfl,fun _ _ _ _ _=>rfl,fun _ _ _ l=>Qhn l,fun _ _=>Jfo,fun _ _=>Qdq,fun _ _=>rfl⟩
theorem sh1:(∀(α β:Type) [Sh α] [Sh β] (p:α×β),Sh.sh p=(Sh.sh p.1∧Sh.sh p.2))∧(∀x:Int,Sh.sh x=True)∧(∀x:Bool,Sh.sh x=True)∧(∀x:Unit,Sh.sh x=True)∧(∀(α:Type) (x:K8 α),Sh.sh x=True)∧(∀(α β:Type) [Sh α] [Sh β] (a:α),Sh.sh (Sum.inl a:α⊕β)=Sh.sh a) ∧
  (∀(α β:Type) [Sh α] [Sh β] (b:β),Sh.sh (Sum.inr b:α⊕β)=Sh.sh b)∧(∀(α:Type) [Sh α] (l m:List α),Sh.sh (l++m)=(Sh.sh l∧Sh.sh m))∧(∀(α:Type) [Sh α] (x:α) (l:List α),Sh.sh (x::l)=(Sh.sh x∧Sh.sh l))∧(∀(α:Type) [Sh α],Sh.sh ([]:List α)=True)∧Sh.sh ([]:List UInt8)=True :=
 ⟨fun _ _ _ _ _=>rfl,fun _=>rfl,fun _=>rfl,fun _=>rfl,fun _ _=>rfl,fun _ _ _ _ _=>rfl,fun _ _ _ _ _=>rfl,fun _ _=>Jfp,fun _ _=>Jn6,fun _ _=>propext ⟨fun _=>trivial,fun _=>⟨fun _ h=>by cases h⟩⟩,propext ⟨fun _=>trivial,fun _=>by show([]:List UInt8).length≤_; decide⟩⟩
theorem mx1:(∀n:Nat,max 0 n=n)∧(∀n:Nat,max n 0=n)∧(∀a b c:Nat,(max a b≤c)=(a≤c∧b≤c))∧(∀a b:Nat,((max a b:Nat):Int)=max (a:Int) (b:Int))∧(∀a b c:Int,(max a b≤c)=(a≤c∧b≤c)) :=
 ⟨ZR,ZG,fun _ _ _=>propext XO,Jkz,fun _ _ _=>propext Int.max_le⟩
theorem sS:(((∀(α β:Type) (p:α⊕β→Prop),(∀x,p x)=((∀a,p (.inl a))∧∀b,p (.inr b)))∧(∀(α β:Type) (a b:α),((Sum.inl a:α⊕β)=.inl b)=(a=b))∧(∀(α β:Type) (a b:β),((Sum.inr a:α⊕β)=.inr b)=(a=b))∧(∀(α:Type) (p:α→Prop) (a:α),(∀b,a=b→p b)=p a)∧(∀(α:Type) (p:α→Prop) (a:α),(∀b,b=a→p b)=p a)) ∧
  (∀p:Prop,(False→p)=True)∧(∀α:Type,(α→True)=True)∧(∀p:Prop,(p→True)=True)∧(∀p:Prop,(True→p)=p)∧(∀p:Prop,(p∧True)=p)∧(∀p:Prop,(True∧p)=p)∧(∀(α:Type) [Nonempty α] (p:Prop),(α→p)=p)∧(∀(α:Type) [BEq α] [LawfulBEq α] (a b:α),((a==b)=true)=(a=b))∧(∀(α:Type) [BEq α] [LawfulBEq α] (a b:α),((a != b)=true)=(a≠b))∧(∀(α:Type) (a b:α),(a≠b)=¬ (a=b)) ∧
  (∀(α:Type) (l m:List α),(l++m).length=l.length+m.length)∧(∀(α:Type) (x:α) (l:List α),(x::l).length=l.length+1)∧(∀(α:Type),([]:List α).length=0)∧(∀(α:Type) (l:List α) (i:Nat) (x:α),(l.set i x).length=l.length)∧(∀(α:Type) (l:List α),[]++l=l)∧∀n:Nat,0+n=n)∧(type_of% ss)∧(type_of% sz1)∧(type_of% sh1)∧type_of% mx1:=by
 refine⟨⟨⟨fun _ _ p=>propext Sum.forall,?_,?_,?_,?_⟩,?_,?_,?_,?_,?_,?_,fun _ _ _=>propext (forall_const _),fun _ _ _ a b=>propext beq_iff_eq,fun _ _ _ a b=>propext bne_iff_ne,?_,?_,?_,?_,?_,?_,?_⟩,ss,sz1,sh1,mx1⟩
 all_goals simp
theorem lv{P:Prop}(h:P:=by first | assumption | omega | exact V4 | ((simp (disch:=omega) only [Q8] at *)<;>omega) | ((first | refine Qds ?_ ?_ | refine Qhp ?_ ?_)<;>(try simp only [sz1,mx1])<;>first | omega | ((simp (disch:=omega) only [Q8] at *)<;>omega)) | exact QW Ua (by omega) | exact Qb7 _ | exact Qi9 _ | grind [Rl,Qdr,Qki,Ip,Qdt,Cq,Gi,L4,Cp,L5]):P:=h
theorem mkW {o o':Option α} {T:(α→Prop)→Prop} (e:o=o') [hw:WP o' T] (P:Prop) (Q:α→Prop) (k:P→T Q:=by
  intro h
  try simp only[sS,reduceCtorEq]at *
  repeat' (first | intro _ | apply And.intro)
  all_goals first | assumption | omega | exact V4 | ((simp (disch:=omega) only [Q8]at *)<;>omega) | ((first | refine Qds ?_ ?_ | refine Qhp ?_ ?_)<;>(try simp only[sz1,mx1])<;>first | omega | ((simp (disch:=omega) only [Q8]at *)<;>omega)) | exact QW Ua (by omega) | exact Qb7 _ | exact Qi9 _ | grind [Rl,Qdr,Qki,Ip,Qdt,Cq,Gi,L4,Cp,L5]):WP o (fun R=>P∧∀r,Q r→R r):=Qg3 fun h=>by rw[e]; exact hw.spec Q (k h)
theorem Ju1{f:σ→Option (σ⊕τ)}{N:Nat}[hN:Ig N](ix:σ→Int)(len:Nat)(I:σ→Prop)(Q:τ→Prop)(hl:∀s,I s→len≤9223372036854775807)
  (step:∀s,I s→0≤ix s→ix s≤len→(ix s<len→IntKind.wrap .i64 (ix s+1)=ix s+1)→W (f s) fun r=>match r with | .inl s'=>I s'∧ix s<len∧ix s'=IntKind.wrap .i64 (ix s+1) | .inr t=>Q t) (s:σ) :
  WP (Qm f N s) (fun R=>(I s∧0≤ix s∧ix s≤len)∧∀r,Q r→R r) :=
 Q9g (fun s=>((len:Int) - ix s).toNat) (fun s=>I s∧0≤ix s∧ix s≤len) Q (fun s h=>by have:=hl s h.1; omega) (fun s h=>by
  have hl':=hl s h.1
  have hw:ix s<len→IntKind.wrap .i64 (ix s+1)=ix s+1:=fun hlt=>by
   exact Q8 (by omega) (by omega)
  refine(step s h.1 h.2.1 h.2.2 hw).mono fun r hr=>?_
  cases r with
  | inl s' =>
   obtain⟨h1,h2,h3⟩:=hr
   rw[hw h2]at h3
   exact⟨⟨h1,by omega,by omega⟩,by omega⟩
  | inr t=>exact hr) s
theorem upL {f f':σ→Option (σ⊕τ)} {B:σ→(σ⊕τ→Prop)→Prop} (e:∀s,f s=f' s) [hf:WPf f' B] {N:Nat} [hN:Ig N] (ix:σ→Int) (len:Nat) (I:σ→Prop) (Q:τ→Prop) (hl:∀s,I s→len≤9223372036854775807:=by
  intro s h
  try simp only[sz1,sh1,mx1]at *
  first | omega | exact QW Ua (by omega) | grind [Rl])
  (step:∀s,I s→0≤ix s→ix s≤len→len≤9223372036854775807→(ix s<len→IntKind.wrap .i64 (ix s+1)=ix s+1)→B s (fun r=>match r with | .inl s'=>I s'∧ix s<len∧ix s'=IntKind.wrap .i64 (ix s+1) | .inr t=>Q t):=by
  intro s h h0 h1 h2 hw
  try simp only[sS,reduceCtorEq]at *
  repeat' (first | intro _ | apply And.intro)
  all_goals first | assumption | omega | ((simp (disch:=omega) only [Q8]at *)<;>omega) | ((first | refine Qds ?_ ?_ | refine Qhp ?_ ?_)<;>(try simp only[sz1,mx1])<;>first | omega | ((simp (disch:=omega) only [Q8]at *)<;>omega)) | exact QW Ua (by omega) | exact Qb7 _ | exact Qi9 _ | grind [Rl,Qdr,Qki,Ip,Qdt,Cq,Gi,L4,Cp,L5]) {s:σ} :
  WP (Qm f N s) (fun R=>(I s∧0≤ix s∧ix s≤len)∧∀r,Q r→R r):=Ju1 ix len I Q hl (fun s h h0 h1 hw=>by rw[e s]; exact hf.spec s _ (step s h h0 h1 (hl s h) hw)) s
theorem Qma {α ε:Type} {f f':Int→Option (Int⊕(Unit⊕ε))} {B:Int→(Int⊕(Unit⊕ε)→Prop)→Prop} (e:∀s,f s=f' s) [hf:WPf f' B] {N:Nat} [hN:Ig N] (l:List α) (I:Prop) (P:α→Prop) (C:Prop) (E:ε→Prop) (hl:I→l.length≤9223372036854775807:=by
  intro h
  try simp only[sz1,sh1,mx1]at *
  first | omega | exact QW Ua (by omega) | grind [Rl])
  (fin:I→(∀y∈l,P y)→C:=by
  intro h hall
  first | exact hall | exact Qz2 hall (by omega))
  (step:∀s:Int,I→0≤s→s≤l.length→l.length≤9223372036854775807→(s<l.length→IntKind.wrap .i64 (s+1)=s+1)→B s (fun r=>match r with | .inl s'=>(∃x,l[s.toNat]?=some x∧P x)∧s<l.length∧s'=IntKind.wrap .i64 (s+1) | .inr t=>(∀u,t=.inl u→l.length≤s)∧∀u,t=.inr u→E u):=by
  intro s h h0 h1 h2 hw
  try simp only[sS,reduceCtorEq]at *
  repeat' (first | intro _ | apply And.intro)
  all_goals first | assumption | omega | ((simp (disch:=omega) only [Q8]at *)<;>omega) | (refine⟨_,by assumption,?_⟩; first | assumption | omega | ((simp (disch:=omega) only [Q8]at *)<;>omega) | ((first | refine Qds ?_ ?_ | refine Qhp ?_ ?_)<;>(try simp only[sz1,mx1])<;>first | omega | ((simp (disch:=omega) only [Q8]at *)<;>omega)) | exact QW Ua (by omega) | exact Qb7 _ | exact Qi9 _ | grind [Rl,Qdr,Qki,Ip,Qdt,Cq,Gi,L4,Cp,L5]) | exact QW Ua (by omega) | exact Qb7 _ | exact Qi9 _ | grind [Rl,Qdr,Qki,Ip,Qdt,Cq,Gi,L4,Cp,L5]) {s:Int} :
  WP (Qm f N s) (fun R=>(I∧Nu P l s∧0≤s∧s≤l.length)∧∀r:Unit⊕ε,((∀u,r=.inl u→C)∧∀u,r=.inr u→E u)→R r):=⟨fun R h=>by
 have hw:=Ju1 (f:=f) (N:=N) (fun s=>s) l.length (fun s=>I∧Nu P l s) (fun r:Unit⊕ε=>(∀u,r=.inl u→C)∧∀u,r=.inr u→E u) (fun s h=>hl h.1) (fun s h h0 h1 hw=>by
  rw[e s]
  refine(hf.spec s _ (step s h.1 h0 h1 (hl h.1) hw)).mono fun r hr=>?_
  cases r with
  | inl s' =>
   obtain⟨x1,x2,x3⟩:=hr
   refine⟨⟨h.1,?_⟩,x2,x3⟩
   rw[x3,hw x2]
   obtain⟨x,y1,y2⟩:=x1
   exact Rk h0 h.2 y1 y2
  | inr t =>
   refine⟨fun u hu=>?_,hr.2⟩
   have hge:=hr.1 u hu
   exact fin h.1 (Qho h.2 hge)) s
 exact hw.spec R ⟨⟨⟨h.1.1,h.1.2.1⟩,h.1.2.2⟩,h.2⟩⟩
theorem Ju2{f:σ→Option (σ⊕τ)}{N:Nat}[hN:Ig N](ix:σ→Int)(E:Int)(I:σ→Prop)(Q:τ→Prop)(hl:∀s,I s→E≤9223372036854775807)
  (step:∀s,I s→0≤ix s→(ix s<E→IntKind.wrap .i64 (ix s+1)=ix s+1)→W (f s) fun r=>match r with | .inl s'=>I s'∧ix s<E∧ix s'=IntKind.wrap .i64 (ix s+1) | .inr t=>Q t) (s:σ) :
  WP (Qm f N s) (fun R=>(I s∧0≤ix s)∧∀r,Q r→R r) :=
 Q9g (fun s=>(E - ix s).toNat) (fun s=>I s∧0≤ix s) Q (fun s h=>by have:=hl s h.1; omega) (fun s h=>by
  have hl':=hl s h.1
  have hw:ix s<E→IntKind.wrap .i64 (ix s+1)=ix s+1:=fun hlt=>by
   exact Q8 (by omega) (by omega)
  refine(step s h.1 h.2 hw).mono fun r hr=>?_
  cases r with
  | inl s' =>
   obtain⟨h1,h2,h3⟩:=hr
   rw[hw h2]at h3
   exact⟨⟨h1,by omega⟩,by omega⟩
  | inr t=>exact hr) s
theorem upI {f f':σ→Option (σ⊕τ)} {B:σ→(σ⊕τ→Prop)→Prop} (e:∀s,f s=f' s) [hf:WPf f' B] {N:Nat} [hN:Ig N] (ix:σ→Int) (E:Int) (I:σ→Prop) (Q:τ→Prop) (hl:∀s,I s→E≤9223372036854775807:=by
  intro s h
  try simp only[sz1,sh1,mx1]at *
  first | omega | grind [Rl])
  (step:∀s,I s→0≤ix s→(ix s<E→IntKind.wrap .i64 (ix s+1)=ix s+1)→B s (fun r=>match r with | .inl s'=>I s'∧ix s<E∧ix s'=IntKind.wrap .i64 (ix s+1) | .inr t=>Q t):=by
  intro s h h0 hw
  try simp only[sS,reduceCtorEq]at *
  repeat' (first | intro _ | apply And.intro)
  all_goals first | assumption | omega | ((simp (disch:=omega) only [Q8]at *)<;>omega) | ((first | refine Qds ?_ ?_ | refine Qhp ?_ ?_)<;>(try simp only[sz1,mx1])<;>first | omega | ((simp (disch:=omega) only [Q8]at *)<;>omega)) | exact QW Ua (by omega) | exact Qb7 _ | exact Qi9 _ | grind [Rl,Qdr,Qki,Ip,Qdt,Cq,Gi,L4,Cp,L5]) {s:σ} :
  WP (Qm f N s) (fun R=>(I s∧0≤ix s)∧∀r,Q r→R r):=Ju2 ix E I Q hl (fun s h h0 hw=>by rw[e s]; exact hf.spec s _ (step s h h0 hw)) s
theorem mkL {f f':σ→Option (σ⊕τ)} {B:σ→(σ⊕τ→Prop)→Prop} (e:∀s,f s=f' s) [hf:WPf f' B] {N:Nat} [hN:Ig N] (μ:σ→Nat) (I:σ→Prop) (Q:τ→Prop) (hμ:∀s,I s→μ s<18446744073709551616:=by
  intro s h
  try simp only[sz1,sh1,mx1]at *
  first | omega | grind [Rl])
  (step:∀s,I s→B s (fun r=>match r with | .inl s'=>I s'∧μ s'<μ s | .inr t=>Q t):=by
  intro s h
  try simp only[sS,reduceCtorEq]at *
  repeat' (first | intro _ | apply And.intro)
  all_goals first | assumption | omega | ((simp (disch:=omega) only [Q8]at *)<;>omega) | ((first | refine Qds ?_ ?_ | refine Qhp ?_ ?_)<;>(try simp only[sz1,mx1])<;>first | omega | ((simp (disch:=omega) only [Q8]at *)<;>omega)) | exact QW Ua (by omega) | exact Qb7 _ | exact Qi9 _ | grind [Rl,Qdr,Qki,Ip,Qdt,Cq,Gi,L4,Cp,L5]) {s:σ} :
  WP (Qm f N s) (fun R=>I s∧∀r,Q r→R r):=Q9g μ I Q hμ (fun s h=>by rw[e s]; exact hf.spec s _ (step s h)) s
end
mutual
def dpt{α:Type}:K8 α→Nat
 | .mk _ ks=>Jfq ks+1
def Jfq{α:Type}:List (K8 α)→Nat
 | []=>0
 | x::l=>max (dpt x) (Jfq l)
end
theorem Q5b{α:Type}:∀{l:List (K8 α)} {x:K8 α},x∈l→dpt x≤Jfq l
 | y::l,x,h=>by
  rw[Jfq]
  rcases QJ.1 h with rfl | h
  ·omega
  ·have:=Q5b h; omega
theorem Jk5{α:Type}{e x:K8 α}(h:x∈e.ks):dpt x<dpt e:=by
 cases e with
 | mk a ks=>rw[dpt]; have:=Q5b (l:=ks) h; omega
theorem Jcn{α:Type}{K:Nat}:∀{l:List (K8 α)},(∀x∈l,dpt x≤K)→Jfq l≤K
 | [],_=>QO _
 | x::l,h=>by rw[Jfq]; exact XO.2 ⟨h x (.head _),Jcn fun y hy=>h y (.tail _ hy)⟩
theorem Js6{α:Type}{e:K8 α}{K:Nat}(h:∀x∈e.ks,dpt x≤K):dpt e≤K+1:=by
 cases e with
 | mk a ks=>rw[dpt]; have:=Jcn (l:=ks) h; omega
structure Qu{α:Type}(P:α→Prop)(l:List α):Prop where
 all:∀x∈l,P x
structure Bj(x:Qx):Prop where
 deep:∀d∈x.2.2.2.2.2.2,dpt d.2.1≤4096
open Go Gd Sz
theorem Qz3(m:List (Int×Int×Int×Int×Str×List Str×List Str×Bool×Bool))(x:Int) :
  ((Qh (k:=.int .i64) x m).getD (0,0,0,([]:Str),([]:List Str),([]:List Str),false,false)).2.2.2.2.1.length≤sz m∧((Qh (k:=.int .i64) x m).getD (0,0,0,([]:Str),([]:List Str),([]:List Str),false,false)).2.2.2.2.2.1.length≤sz m:=by
 have h:=Cq x ((0,0,0,([]:Str),([]:List Str),([]:List Str),false,false):Int×Int×Int×Str×List Str×List Str×Bool×Bool) m
 simp only[sz1,mx1,JY,ZG,ZR]at h ⊢
 omega
theorem Jco(m:List (Int×Int×Int×Int×Bool×Bool×List Int))(x:Int) :
  ((Qh (k:=.int .i64) x m).getD (0,0,0,false,false,([]:List Int))).2.2.2.2.2.length≤sz m:=by
 have h:=Cq x ((0,0,0,false,false,([]:List Int)):Int×Int×Int×Bool×Bool×List Int) m
 simp only[sz1,mx1,JY,ZG,ZR]at h ⊢
 omega
theorem Q5c(m:List (Int×List Int))(x:Int):((Qh (k:=.int .i64) x m).getD ([]:List Int)).length≤sz m:=by
 have h:=Cq x ([]:List Int) m
 simp only[sz1,mx1,JY,ZG]at h ⊢
 omega
theorem Jn7{V:Type}[Sz V]{K:Int}{x:Int}{v:V}{m:List (Int×V)}(h1:(sz m:Int)+1≤K)(h2:(sz v:Int)≤K):((sz (Qz (k:=.int .i64) x v m:List (Int×V)):Nat):Int)≤K:=by
 have:=Ip x v m
 omega
theorem Ih{α:Type}{l:List α}{i:Int}{x:α}(h0:0≤i)(h:l[i.toNat]?=some x):l.take i.toNat++[x]=l.take (i+1).toNat:=by
 have e:(i+1).toNat=i.toNat+1:=by omega
 rw[e,List.take_add_one,h]; rfl
theorem Rm{α:Type}{l:List α}{i:Int}(h:(l.length:Int)≤i):l.take i.toNat=l:=List.take_of_length_le (by omega)
instance (priority:=2000) wpSlcS {l:Str} {a b:Int}:WP (slc l a b) (fun R=>(0≤a∧a≤b∧b≤(List.length l:Int))∧∀s:Str,(List.length s:Int)=b - a→R s):=⟨fun R h=>by
 obtain⟨⟨h0,h1,h2⟩,hR⟩:=h
 refine⟨(l.drop a.toNat).take (b - a).toNat,?_,hR _ (by rw[List.length_take,List.length_drop]; omega)⟩
 unfold slc
 rw[if_pos ⟨h0,h1,h2⟩]⟩
def lpd(y:Int):Int:=if(y.tmod 4=0∧y.tmod 100≠0)∨y.tmod 400=0 then 1 else 0
def bef(y:Int):Int:=365*(y - 2000)+(if y>2000 then(y - 2001) / 4 - (y - 2001) / 100+(y - 2001) / 400+1 else 0)
theorem Qt2(y:Int):0≤lpd y∧lpd y≤1:=by unfold lpd; split<;>omega
theorem Qt3(y:Int)(h:2000≤y):bef (y+1)=bef y+365+lpd y:=by
 unfold bef lpd
 rw[JE (by omega),JE (by omega),JE (by omega)]
 split<;>split<;>split<;>omega
theorem Qt4(y:Int)(h:2000≤y):365*(y - 2000)≤bef y∧bef y≤366*(y - 2000):=by
 unfold bef
 split<;>omega
theorem Jk6:bef 2400=146097:=by decide
def mon(y m:Int):Int:=if m=2 then 28+lpd y else if m=4∨m=6∨m=9∨m=11 then 30 else 31
def lft(y m:Int):Int:=if m=1 then 365+lpd y else if m=2 then 334+lpd y else if m=3 then 306 else if m=4 then 275 else if m=5 then 245 else if m=6 then 214 else if m=7 then 184 else if m=8 then 153 else if m=9 then 122 else if m=10 then 92 else if m=11 then 61 else if m=12 then 31 else 0
theorem Qmb(y m:Int)(h:1≤m∧m≤12):lft y m=mon y m+lft y (m+1):=by
 have hx:m=1∨m=2∨m=3∨m=4∨m=5∨m=6∨m=7∨m=8∨m=9∨m=10∨m=11∨m=12:=by omega
 rcases hx with rfl | rfl | rfl | rfl | rfl | rfl | rfl | rfl | rfl | rfl | rfl | rfl<;>simp[lft,mon]<;>omega
theorem Jcp(y:Int):lft y 1=365+lpd y:=by simp[lft]
theorem Q9h(y:Int):lft y 13=0:=by simp[lft]
theorem Qt5{W:Type}{key:Int}{v:W}{y:Int×W}:∀{m:List (Int×W)},y∈(Qz (k:=.int .i64) key v m:List (Int×W))→y=(key,v)∨y∈m
 | [],h=>by
  unfold Qz at h
  rcases QJ.1 h with h | h
  ·exact .inl h
  ·exact .inr h
 | x::m,h=>by
  unfold Qz at h
  cases hk:eqK (.int .i64) key x.1 with
  | true =>
   rw[hk]at h
   rcases QJ.1 h with h | h
   ·exact .inl h
   ·exact .inr (.tail _ h)
  | false =>
   rw[hk]at h
   rcases QJ.1 h with h | h
   ·exact .inr (h▸.head _)
   ·rcases Qt5 h with h | h
    ·exact .inl h
    ·exact .inr (.tail _ h)
theorem Qxg{W:Type}{key:Int}:∀{m:List (Int×W)} {v:W},Qh (k:=.int .i64) key m=some v→∃p∈m,p.2=v
 | x::m,v,h=>by
  unfold Qh at h
  cases hk:eqK (.int .i64) key x.1 with
  | true=>rw[hk]at h; exact⟨x,.head _,Option.some.inj h⟩
  | false =>
   rw[hk]at h
   obtain⟨p,hp,e⟩:=Qxg h
   exact⟨p,.tail _ hp,e⟩
structure Qt6(m:List (Int×Int))(n:Int):Prop where
 all:∀p∈m,0≤p.2∧p.2<n
theorem Qxh{n:Int}:Qt6 [] n:=⟨fun _ h=>absurd h JB⟩
theorem Qxi{m:List (Int×Int)}{n key v:Int}(h:Qt6 m n)(h0:0≤v)(h1:v<n):Qt6 (Qz (k:=.int .i64) key v m) n:=⟨fun p hp=>by
 rcases Qt5 hp with e | hp
 ·rw[e]; exact⟨h0,h1⟩
 ·exact h.all p hp⟩
theorem Qxj{m:List (Int×Int)}{n key d:Int}(h:Qt6 m n)(hs:(Qh (k:=.int .i64) key m).isSome=true):0≤(Qh (k:=.int .i64) key m).getD d∧(Qh (k:=.int .i64) key m).getD d<n:=by
 cases e:Qh (k:=.int .i64) key m with
 | none=>rw[e]at hs; exact absurd hs (by decide)
 | some v =>
  obtain⟨p,hp,e2⟩:=Qxg e
  have:=h.all p hp
  rw[e2]at this; exact this
theorem Qxk{W:Type}{key:Str}{v:W}:∀{m:List (Str×W)},Qh (k:=.str) key (Qz (k:=.str) key v m:List (Str×W))=some v
 | []=>by
  unfold Qz Qh
  rw[Qi9]; rfl
 | x::m=>by
  unfold Qz
  cases hk:eqK .str key x.1 with
  | true=>show Qh (k:=.str) key ((key,v)::m:List (Str×W))=_; unfold Qh; rw[Qi9]; rfl
  | false =>
   show Qh (k:=.str) key (x::(Qz (k:=.str) key v m:List (Str×W)))=_
   unfold Qh
   rw[hk]; exact Qxk
theorem Ye{α:Type}{P:α→Prop}:Qu P []:=⟨fun _ h=>absurd h JB⟩
theorem Ud{α:Type}{P:α→Prop}{l m:List α}(h:Qu P l)(k:Qu P m):Qu P (l++m):=⟨fun x hx=>(QX.1 hx).elim (h.all x) (k.all x)⟩
theorem K7{α:Type}{P:α→Prop}{x:α}(h:P x):Qu P [x]:=⟨fun y hy=>by rw[JU.1 hy]; exact h⟩
theorem Q5d{α:Type}{P:α→Prop}{x y:α}(h:P x)(k:P y):Qu P [x,y]:=⟨fun z hz=>by
 rcases QJ.1 hz with e | hz
 ·rw[e]; exact h
 ·rw[JU.1 hz]; exact k⟩
theorem allL_set{α:Type}{P:α→Prop}{l:List α}{i:Nat}{x:α}(h:Qu P l)(k:P x):Qu P (l.set i x):=⟨fun y hy=>(ZQ hy).elim (h.all y) (fun e=>e▸k)⟩
theorem Qhq{α:Type}{P Q:α→Prop}{l:List α}(h:Qu P l)(k:∀x,P x→Q x):Qu Q l:=⟨fun x hx=>k x (h.all x hx)⟩
structure Ju3(B:Int)(c:Int×Int×Int):Prop where
 side:0≤c.2.1∧c.2.1≤1
 time:0≤c.1∧c.1≤B
instance wpSortF {l:List (Int×Int×Int)}:WP (Qiz (fun x:Int×Int×Int=>x.1) l) (fun R=>(l.length≤1099511627776∧Qu (Ju3 12622780800) l)∧∀r,r.length=l.length→(∀P:Int×Int×Int→Prop,Qu P l→Qu P r)→R r):=⟨fun R h=>by
 obtain⟨⟨h1,h2⟩,hR⟩:=h
 have hk:l.all (fun x=>kOk x.1)=true:=QP.2 fun x hx=>by
  have:=(h2.all x hx).time
  unfold kOk
  simp only[QQ,decide_eq_true_eq]
  omega
 have he:∃r,Qiz (fun x:Int×Int×Int=>x.1) l=some r:=by
  unfold Qiz
  rw[hk]
  have:decide (l.length<4611686018427387904)=true:=decide_eq_true (by omega)
  rw[this]
  simp only[Bool.and_self,cond_true]
  cases Nat.ble l.length 12&&Q83 (fun x:Int×Int×Int=>x.1) l<;>exact⟨_,rfl⟩
 obtain⟨r,e⟩:=he
 have hp:=(Qs8 _ e).1
 exact⟨r,e,hR r hp.length_eq (fun P hP=>⟨fun x hx=>hP.all x (hp.mem_iff.1 hx)⟩)⟩⟩
theorem Jcq{β:Type}{c:Prop}[Decidable c]{a:Option Bool}{f:Bool→Option β}{A:(Bool→Prop)→Prop}{B C:(β→Prop)→Prop}[ha:WP a A][hb:WP (f true) B][hc:WP (f false) C] :
  WP ((if c then some true else a).bind f) (fun R=>(c→B R)∧(¬ c→A fun b=>(b=true→B R)∧(b=false→C R))):=⟨fun R h=>by
 by_cases h0:c
 ·rw[if_pos h0]; exact hb.spec R (h.1 h0)
 ·rw[if_neg h0]
  obtain⟨r,e,hr⟩:=ha.spec _ (h.2 h0)
  rw[e]
  cases r with
  | true=>exact hb.spec R (hr.1 rfl)
  | false=>exact hc.spec R (hr.2 rfl)⟩
theorem Js7{β:Type}{c:Prop}[Decidable c]{a:Option Bool}{f:Bool→Option β}{A:(Bool→Prop)→Prop}{B C:(β→Prop)→Prop}[ha:WP a A][hb:WP (f true) B][hc:WP (f false) C] :
  WP ((if c then a else some false).bind f) (fun R=>(c→A fun b=>(b=true→B R)∧(b=false→C R))∧(¬ c→C R)):=⟨fun R h=>by
 by_cases h0:c
 ·rw[if_pos h0]
  obtain⟨r,e,hr⟩:=ha.spec _ (h.1 h0)
  rw[e]
  cases r with
  | true=>exact hb.spec R (hr.1 rfl)
  | false=>exact hc.spec R (hr.2 rfl)
 ·rw[if_neg h0]; exact hc.spec R (h.2 h0)⟩
instance (priority:=900) wpfOpt {α γ:Type} {f:Option α→Option γ} {A:α→(γ→Prop)→Prop} {B:(γ→Prop)→Prop} [ha:WPf (fun a=>f (some a)) A] [hb:WP (f none) B]:WPf f (fun s R=>(∀a,s=some a→A a R)∧(s=none→B R)):=⟨fun s R k=>by
 cases s with
 | some a=>exact ha.spec a R (k.1 a rfl)
 | none=>exact hb.spec R (k.2 rfl)⟩
theorem Jfr{α:Type}{o:Option α}(h:o=none):isNone o=true:=by rw[h]; rfl
theorem Jk7{W:Type}{key:Str}{v:W}{m:List (Str×W)}{C:Prop}(h:Qh (k:=.str) key (Qz (k:=.str) key v m:List (Str×W))=none):C:=by
 rw[Qxk]at h; exact absurd h (by simp)
instance wpSortZ {l:List Int}:WP (Jpd l) (fun R=>l.length≤1099511627776∧∀r,r.length=l.length→R r):=⟨fun R h=>by
 refine⟨Qcz l,?_,h.2 _ (A8 l).length_eq⟩
 unfold Jpd
 rw[decide_eq_true (by omega)]; rfl⟩
instance wpCompactZ {l:List Int}:WP (Q4e l) (fun R=>l.length≤1099511627776∧∀r,r.length≤l.length→R r):=⟨fun R h=>by
 refine⟨Lib.compact l,?_,h.2 _ (Lib.compact_length_le l)⟩
 unfold Q4e
 rw[decide_eq_true (by omega)]; rfl⟩
instance wpFiltZ {p:Int→Bool} {l:List Int}:WP (Jjj p l) (fun R=>l.length≤1099511627776∧∀r,r.length≤l.length→R r):=⟨fun R h=>by
 refine⟨l.filter fun x=>!p x,?_,h.2 _ (ZB _ _)⟩
 unfold Jjj
 rw[decide_eq_true (by omega)]; rfl⟩
def Q5e(K:Int):List Int→Prop
 | []=>True
 | a::l=>(0≤a∧a≤K)∧Q5e K l
theorem Q5f{K:Int}:∀{l:List Int},(∀y∈l,0≤y∧y≤K)→Q5e K l
 | [],_=>True.intro
 | a::l,h=>⟨h a (.head _),Q5f fun y hy=>h y (.tail _ hy)⟩
structure Qn4(s:Int×Int×Int):Prop where
 upto:0≤s.1∧s.1≤1099511627776
 inc:1≤s.2.1∧s.2.1≤1099511627776
 price:0≤s.2.2∧s.2.2≤1125899906842624
theorem Jfs{s:Int×Int×Int}(h1:Q5e 1099511627776 [s.1,s.2.1])(h2:s.2.1≠0)(h3:Q5e 1125899906842624 [s.2.2]):Qn4 s:=⟨h1.1,⟨by have:=h1.2.1; omega,h1.2.1.2⟩,h3.1⟩
theorem Jk8(v a i:Int)(h1:1≤i)(h2:i≤1099511627776)(h3:a<v)(h4:0≤a)(h5:v≤2199023255552):IntKind.wrap .i64 (Int.tdiv (IntKind.wrap .i64 (IntKind.wrap .i64 (IntKind.wrap .i64 (v - a)+i) - 1)) i)≠0:=by
 rw[Q8 (n:=v - a) (by omega) (by omega),Q8 (n:=v - a+i) (by omega) (by omega),Q8 (n:=v - a+i - 1) (by omega) (by omega),QN (by omega)]
 have h6:1≤(v - a+i - 1) / i:=by
  rw[Int.le_ediv_iff_mul_le (by omega)]; omega
 have h7:(v - a+i - 1) / i≤v - a+i - 1:=Int.ediv_le_self _ (by omega)
 rw[Q8 (by omega) (by omega)]; omega
theorem Ju4{v a i:Int}(h:IntKind.wrap .i64 (Int.tdiv (IntKind.wrap .i64 (IntKind.wrap .i64 (IntKind.wrap .i64 (v - a)+i) - 1)) i)=0)(h1:1≤i∧i≤1099511627776)(h3:¬ v≤a)(h4:0≤a)(h5:v≤2199023255552):False:=Jk8 v a i h1.1 h1.2 (by omega) h4 h5 h
structure Jvw(b:Qt):Prop where
 ev:b.1.length≤32
 tarL:sz b.2.1≤4096
 tarS:Sh.sh b.2.1
 tarO:Qu Bj b.2.1
 prodL:b.2.2.1.length≤32
 prodS:sz b.2.2.1≤4096
 prodO:Qu (fun p:Qn=>p.2.2.2.2.2.length≤32) b.2.2.1
 hol:b.2.2.2.2.1.length≤4096
theorem Q9i(y m:Int):28≤mon y m∧mon y m≤31:=by
 have:=Qt2 y
 unfold mon
 split
 ·omega
 ·split<;>omega
theorem Jk9(y m:Int)(h:1≤m∧m≤13):0≤lft y m∧lft y m≤366:=by
 have:=Qt2 y
 have hx:m=1∨m=2∨m=3∨m=4∨m=5∨m=6∨m=7∨m=8∨m=9∨m=10∨m=11∨m=12∨m=13:=by omega
 rcases hx with rfl | rfl | rfl | rfl | rfl | rfl | rfl | rfl | rfl | rfl | rfl | rfl | rfl<;>simp[lft]<;>omega
def em(M:Int):Int:=bef (2000+M / 12)+(365+lpd (2000+M / 12) - lft (2000+M / 12) (M % 12+1))
theorem Ju5{y m:Int}(h:1≤m∧m≤12):em (12*(y - 2000)+m - 1)=bef y+(365+lpd y - lft y m):=by
 unfold em
 have e1:2000+(12*(y - 2000)+m - 1) / 12=y:=by omega
 have e2:(12*(y - 2000)+m - 1) % 12+1=m:=by omega
 rw[e1,e2]
theorem Qqz{M:Int}(h:0≤M):em M+28≤em (M+1)∧em (M+1)≤em M+31:=by
 have h0:=Q9i (2000+M / 12) (M % 12+1)
 have h1:=Qmb (2000+M / 12) (M % 12+1) (by omega)
 unfold em
 by_cases hc:M % 12=11
 ·have e1:2000+(M+1) / 12=2000+M / 12+1:=by omega
  have e2:(M+1) % 12=0:=by omega
  have h2:=Qt3 (2000+M / 12) (by omega)
  have h3:=Jcp (2000+M / 12+1)
  have h4:=Q9h (2000+M / 12)
  rw[hc]at h0 h1 ⊢
  rw[e1,e2,h2]
  simp only[Int.zero_add]at *
  rw[h3]
  have e5:(11:Int)+1+1=13:=by decide
  rw[e5,h4]at h1
  omega
 ·have e1:(M+1) / 12=M / 12:=by omega
  have e2:(M+1) % 12+1=M % 12+1+1:=by omega
  rw[e1,e2]
  omega
theorem Jcr{a:Int}(h0:0≤a):∀k:Nat,em a+28*k≤em (a+k)∧em (a+k)≤em a+31*k
 | 0=>by simp
 | k+1=>by
  have ih:=Jcr h0 k
  have:=Qqz (M:=a+k) (by omega)
  have e:a+((k+1:Nat):Int)=a+k+1:=by omega
  rw[e]; omega
theorem Jla{a b:Int}(h0:0≤a)(h:a≤b):em a+28*(b - a)≤em b∧em b≤em a+31*(b - a):=by
 have:=Jcr h0 (b - a).toNat
 have e:a+((b - a).toNat:Int)=b:=by omega
 rw[e]at this; omega
theorem Ju6:em 0=0:=by decide
theorem Jcs:em 4800=146097:=by decide
structure Qpf(a x r:Int):Prop where
 lo : -1≤r
 hi:r≤4799
 le:0≤r→em r+a - 1≤x / 86400
 lt:r<4799→x / 86400<em (r+1)+a - 1
theorem Jlb{y m d x a:Int}(hy:2000≤y∧y≤2399)(hm:1≤m∧m≤12)(hd:1≤d∧d≤mon y m)(hx:x / 86400=bef y+(365+lpd y - lft y m)+d - 1)(ha:1≤a∧a≤28) :
  (d<a→Qpf a x (12*(y - 2000)+m - 1 - 1))∧(¬ d<a→Qpf a x (12*(y - 2000)+m - 1)):=by
 have he:=Ju5 (y:=y) (m:=m) hm
 obtain⟨M,hM⟩:∃M,M=12*(y - 2000)+m - 1:=⟨_,rfl⟩
 rw[←hM]at he ⊢
 have h0:0≤M∧M≤4799:=by omega
 refine⟨fun hc=>⟨by omega,by omega,fun h=>?_,fun h=>?_⟩,fun hc=>⟨by omega,by omega,fun h=>by omega,fun h=>?_⟩⟩
 ·have:=Qqz (M:=M - 1) (by omega)
  have e:M - 1+1=M:=by omega
  rw[e]at this; omega
 ·have e:M - 1+1=M:=by omega
  rw[e]; omega
 ·have h1:em (M+1)=em M+mon y m:=by
   have h1:=Qmb y m hm
   have ey:y=2000+M / 12:=by omega
   have em':m=M % 12+1:=by omega
   unfold em
   by_cases hc:M % 12=11
   ·have e1:2000+(M+1) / 12=y+1:=by omega
    have e2:(M+1) % 12=0:=by omega
    have h2:=Qt3 y (by omega)
    have h3:=Jcp (y+1)
    have h4:=Q9h y
    have e5:m=12:=by omega
    rw[←em',←ey,e1,e2,h2]
    simp only[Int.zero_add]at *
    rw[h3]
    rw[e5]at h1 ⊢
    have e6:(12:Int)+1=13:=by decide
    rw[e6,h4]at h1
    omega
   ·have e1:2000+(M+1) / 12=y:=by omega
    have e2:(M+1) % 12+1=m+1:=by omega
    rw[←em',←ey,e1,e2]
    omega
  omega
def bgn(a M:Int):Int:=if M=4800 then 12622780800 else 86400*(em M+a - 1)
structure Jrp(a v:Int)(p:Int×Int):Prop where
 fr:p.1=if v<0 then 0 else bgn a v
 to_:p.2=bgn a (v+1)
theorem Qt7{a M:Int}(ha:1≤a∧a≤28)(h0:0≤M)(h1:M≤4799):bgn a M<bgn a (M+1)∧bgn a (M+1)≤bgn a M+2678400:=by
 have h:=Qqz h0
 unfold bgn
 by_cases hc:M=4799
 ·subst hc
  have:=Jcs
  rw[if_neg (by decide),if_pos (by decide)]
  have e:(4799:Int)+1=4800:=by decide
  rw[e]at h
  omega
 ·rw[if_neg (by omega),if_neg (by omega)]
  omega
theorem Qz4{a M K:Int}(ha:1≤a∧a≤28)(h0:0≤M)(h:M≤K)(h1:K≤4800):bgn a M≤bgn a K:=by
 have e:=Jla h0 h
 unfold bgn
 by_cases hc:K=4800
 ·subst hc
  have:=Jcs
  split
  ·exact JT _
  ·have:=Qqz h0
   have h2:=Jla (a:=M+1) (b:=4800) (by omega) (by omega)
   rw[if_pos rfl]; omega
 ·rw[if_neg (by omega),if_neg hc]; omega
structure Jft(lo hi:Int)(p:Int×Int):Prop where
 fr:lo - 2678400≤p.1
 to_:p.2≤hi+2678400
theorem Jlc{a v x y m n:Int}{p:Int×Int}(ha:1≤a∧a≤28)(hx:0≤x)(hxy:x<y)(hy:y≤12622780800)(hp:Jrp a v p)(hm:Qpf a x m)(hn:Qpf a (y - 1) n)(h1:m≤v)(h2:v≤n):Jft x y p:=by
 have hlo:=hm.lo; have hhi:=hn.hi
 refine⟨?_,?_⟩
 ·rw[hp.fr]
  split
  ·rename_i hv
   have hlt:=hm.lt (by omega)
   have e:m+1=0:=by omega
   rw[e,Ju6]at hlt
   omega
  ·have h3:x<bgn a (m+1)∨m=4799:=by
    by_cases hc:m<4799
    ·left
     have hlt:=hm.lt hc
     unfold bgn; rw[if_neg (by omega)]; omega
    ·right; have:=hm.hi; omega
   rcases h3 with h3 | h3
   ·by_cases hc:m<0
    ·have:=Qz4 ha (M:=m+1) (K:=v) (by omega) (by omega) (by omega)
     omega
    ·have h4:=Qt7 ha (M:=m) (by omega) (by have:=hm.hi; omega)
     have h5:=Qz4 ha (M:=m) (K:=v) (by omega) h1 (by omega)
     omega
   ·have h5:=Qz4 ha (M:=m) (K:=v) (by omega) h1 (by omega)
    have h6:=hm.le (by omega)
    have h7:=Qt7 ha (M:=m) (by omega) (by omega)
    have h8:bgn a (m+1)=12622780800:=by unfold bgn; rw[h3]; rfl
    omega
 ·rw[hp.to_]
  by_cases hc:v<0
  ·have e:v+1=0:=by omega
   rw[e]
   have e0:bgn a 0=86400*(a - 1):=by unfold bgn; rw[if_neg (by decide),Ju6]; omega
   omega
  ·have h4:=Qt7 ha (M:=v) (by omega) (by omega)
   have h5:=Qz4 ha (M:=v) (K:=n) (by omega) h2 (by omega)
   have h6:=hn.le (by omega)
   have h7:bgn a n≤y - 1:=by unfold bgn; rw[if_neg (by omega)]; omega
   omega
theorem Jld{a x y m n:Int}(ha:1≤a∧a≤28)(hx:0≤x)(hxy:x<y)(hy:y≤12622780800)(hm:Qpf a x m)(hn:Qpf a (y - 1) n)(h:m≤n):n - m≤(y - x) / 2419200+2:=by
 have hlo:=hm.lo; have hhi:=hn.hi
 by_cases hc:m<n
 ·have h1:=hm.lt (by omega)
  have h2:=hn.le (by omega)
  have h3:=Jla (a:=m+1) (b:=n) (by omega) (by omega)
  omega
 ·omega
class Y0 where
 lo:Int
 hi:Int
 ge:0≤hi
 le:hi≤12622780801
 ok:hi - lo≤69206400
structure Aft[Y0](t:Int):Prop where
 c:Y0.lo≤t
abbrev Nr[Y0]:Int×Int→Prop:=Jft Y0.lo Y0.hi
structure Qil[Y0](c:Int×Int×Int):Prop where
 side:0≤c.2.1∧c.2.1≤1
 time:Y0.lo - 2678400≤c.1∧c.1≤Y0.hi+2678400
 all:0≤c.1∧c.1≤12622780800
theorem Zi{α:Type}{P:α→Prop}{l:List α}{x:α}(hx:x∈l)(h:Qu P l):P x:=h.all x hx
theorem Q5g{α:Type}{P:α→Prop}{l m:List α}(h:Qu P m)(k:∀x∈l,x∈m):Qu P l:=⟨fun x hx=>h.all x (k x hx)⟩
theorem Jn8[Y0]{x y:Int}{l:List (Int×Int)}(h:Qu (Jft x y) l)(h1:Y0.lo≤x)(h2:y≤Y0.hi):Qu Nr l:=Qhq h fun p hp=>⟨by have:=hp.fr; omega,by have:=hp.to_; omega⟩
theorem Jct[Y0]{p:Int×Int}{k d:Int}{b:Bool}(h:Nr p)(v:b=true→0≤p.1∧p.1<p.2∧p.2≤12622780800)(hb:b=true)(h0:0≤k)(h1:k≤1):Qil (p.1,k,d)∧Qil (p.2,k,d):=by
 have a:=h.fr; have b:=h.to_; have v:=v hb
 exact⟨⟨⟨h0,h1⟩,⟨a,by simp only; omega⟩,by simp only; omega⟩,⟨⟨h0,h1⟩,⟨by simp only; omega,b⟩,by simp only; omega⟩⟩
theorem Jn9[Y0]{c:Int×Int×Int}(h:Qil c):Nr (c.1,0):=⟨h.time.1,by have:=Y0.ge; simp only; omega⟩
theorem Joa[Y0]{p:Int×Int}{c:Int×Int×Int}(h:Nr p)(k:Qil c):Nr (p.1,c.1):=⟨h.fr,k.time.2⟩
theorem Js8[Y0]{p:Int×Int}(h:Nr p):p.2 - p.1≤74563200:=by have:=h.fr; have:=h.to_; have:=Y0.ok; omega
instance wpCloneF {α:Type} {b:Nat} {l:List α}:WP (Ju b l) (fun R=>l.length*b≤140737488355328∧R l):=⟨fun R h=>⟨l,by
 unfold Ju app
 rw[if_pos (by simpa using h.1)]; rfl,h.2⟩⟩
instance wpCloneR {α:Type} {b:Nat} {l:List α}:WP (Qzp b l) (fun R=>l.length*b≤140737488355328∧R (l,l)):=⟨fun R h=>⟨(l,l),by
 unfold Qzp app
 rw[if_pos (by simpa using h.1)]; rfl,h.2⟩⟩
theorem Fr{α:Type}{l:List α}{i:Nat}{x y:α}(h:l[i]?=some x)(e:y=x):l.set i y=l:=by
 subst e
 exact JD fun j=>by
  rw[List.getElem?_set]
  split
  ·rename_i hj; subst hj
   have:=(List.getElem?_eq_some_iff.1 h).1
   rw[if_pos this,h]
  ·rfl
theorem Qdu{l:List Qa}{i:Nat}{x y:Qa}(hx:l[i]?=some x)(hy:l[i]?=some y):l.set i (y.1,y.2.1,y.2.2.1,y.2.2.2.1,y.2.2.2.2.1,x.2.2.2.2.2.1,y.2.2.2.2.2.2.1,y.2.2.2.2.2.2.2.1,y.2.2.2.2.2.2.2.2.1,y.2.2.2.2.2.2.2.2.2.1,y.2.2.2.2.2.2.2.2.2.2)=l:=by
 rw[hx]at hy
 rw[←Option.some.inj hy]
 exact Fr hx rfl
theorem Job(n:Int):IntKind.wrap .i64 n≤9223372036854775807:=by
 rw[Jdx]; split<;>omega
structure Di(b:Qt):Prop where
 ev:b.1.length≤40
 tarL:sz b.2.1≤4096
 tarS:Sh.sh b.2.1
 tarO:Qu Bj b.2.1
 prodL:b.2.2.1.length≤40
 prodS:sz b.2.2.1≤4096
 prodO:Qu (fun p:Qn=>p.2.2.2.2.2.length≤40) b.2.2.1
 hol:b.2.2.2.2.1.length≤4096
set_option linter.defProp false
set_option maxRecDepth 100000
set_option maxHeartbeats 4000000
set_option synthInstance.maxSize 100000
set_option synthInstance.maxHeartbeats 1000000
variable {N:Nat} [Ig N]
@[reducible,instance] def Q61{x0 x1}{s}:=upL (N:=N) (s:=s) (Sp.eq_def N x0 x1) (fun t=>t) x0.length (fun t=>sz x0≤9223372036854775807) (fun r:((Int))=>0≤r∧r≤x0.length)
@[reducible,instance] def Jfu{x0 x1}:=mkW (Ph.eq_1 N x0 x1) (sz x0≤1099511627776) (fun r=>sz r≤sz x0+1)
@[reducible,instance] def Qz5{x0 x1}{s}:=upL (N:=N) (s:=s) (Li.eq_def N x0 x1) (fun t=>t.1) x0.length (fun t=>sz x0≤1099511627776∧t.2.length≤t.1∧sz t.2≤(sz x0)) (fun r:(((List Str)))=>sz r≤(sz x0))
@[reducible,instance] def Q62{x0 x1}:=mkW (B8.eq_1 N x0 x1) (sz x0≤1099511627776) (fun r=>sz r≤(sz x0))
@[reducible,instance] def Jfv{x0 x1}:=mkW (Pi.eq_1 N x0 x1) (sz x0≤1099511627776) (fun r=>r.2.2.2.2.1.length≤x0.2.2.2.2.1.length+1∧r.2.2.2.2.2.1.length≤x0.2.2.2.2.2.1.length+1)
@[reducible,instance] def Qz6[Y0]{x0 x1}{s}:=upL (N:=N) (s:=s) (Lj.eq_def N x0 x1) (fun t=>t.1) x0.length (fun t=>x0.length≤40∧t.2.1.length≤t.1∧sz t.2.1≤t.1∧sz t.2.2≤t.1∧Qu (fun m:Ql=>Aft m.1) x0∧Qu (fun m:Qp=>Aft m.1) t.2.1) (fun r:(((List Qp)))=>sz r≤40∧Qu (fun m:Qp=>Aft m.1) r) (step:=by
  intro s h h0 h1 h2 hw
  have g0:=h.2.2.2.2.1; have g1:=h.2.2.2.2.2; have g2:=(show 0<s.2.1.length→s.2.1.length≤40→IntKind.wrap .i64 ((s.2.1.length:Int) - 1)=(s.2.1.length:Int) - 1 from fun a b=>Q8 (by omega) (by omega))
  try simp only[sS,reduceCtorEq]at *
  repeat' (first | intro _ | apply And.intro)
  all_goals first | omega | (rw[g2 (by omega) (by omega)]; omega) | ((with_reducible refine allL_set g1 ?_); dsimp only; exact Zi (P:=fun m:Qp=>Aft m.1) (by assumption) g1) | (refine Qds ?_ ?_<;>(try simp only[sz1,mx1])<;>(rw[hw (by omega)]; omega)) | ((with_reducible refine Ud g1 (K7 ?_)); exact Zi (P:=fun m:Ql=>Aft m.1) (by assumption) g0) | exact lv)
@[reducible,instance] def Q63[Y0]{x0 x1}:=mkW (B9.eq_1 N x0 x1) (x0.length≤40∧Qu (fun m:Ql=>Aft m.1) x0) (fun r=>sz r≤40∧Qu (fun m:Qp=>Aft m.1) r) (k:=by
  intro h
  try simp only[sS,reduceCtorEq]at *
  repeat' (first | intro _ | apply And.intro)
  all_goals first | ((repeat cases ‹_∧_›); first | assumption | exact Ye) | exact lv)
@[reducible,instance] def Q5h{x0 x1}{s}:=upL (N:=N) (s:=s) (Pj.eq_def N x0 x1) (fun t=>t) x0.2.2.2.2.2.1.length (fun t=>sz x0≤9223372036854775807∧sz x1≤9223372036854775807∧x0.2.2.2.2.2.1.length=x1.2.2.2.2.2.1.length) (fun r:((Unit)⊕(Bool))=>True)
@[reducible,instance] def Jcu{x0 x1}:=mkW (Mf.eq_1 N x0 x1) (sz x0≤9223372036854775807∧sz x1≤9223372036854775807) (fun r=>True)
@[reducible,instance] def Q5i{x0 x1}:=mkW (Aq.eq_1 N x0 x1) (sz x0≤9223372036854775807∧sz x1≤9223372036854775807) (fun r=>True)
@[reducible,instance] def Q5j{x0 x1}:=mkW (Ar.eq_1 N x0 x1) (True) (fun r=>r=x0)
@[reducible,instance] def Qg6[Y0]{x0}{s}:=upL (N:=N) (s:=s) (U7.eq_def N x0) (fun t=>t.1) x0.length (fun t=>sz x0≤40∧t.2.length≤t.1∧sz t.2≤40∧Qu (fun m:Qp=>Aft m.1) x0∧Qu (fun m:Qp=>Aft m.1) t.2∧x0.length≤40) (fun r:(((List Qp)))=>sz r≤40∧Qu (fun m:Qp=>Aft m.1) r) (step:=by
  intro s h h0 h1 h2 hw
  try simp only[sS,reduceCtorEq]at *
  repeat' (first | intro _ | apply And.intro)
  all_goals first | ((repeat cases ‹_∧_›); first | assumption | exact allL_set (by assumption) (Zi (P:=fun m:Qp=>Aft m.1) (by assumption) (by assumption)) | exact Ud (by assumption) (K7 (Zi (P:=fun m:Qp=>Aft m.1) (by assumption) (by assumption)))) | exact lv)
@[reducible,instance] def Qja[Y0]{x0}:=mkW (Vs.eq_1 N x0) (sz x0≤40∧Qu (fun m:Qp=>Aft m.1) x0) (fun r=>sz r≤40∧Qu (fun m:Qp=>Aft m.1) r) (k:=by
  intro h
  try simp only[sS,reduceCtorEq]at *
  repeat' (first | intro _ | apply And.intro)
  all_goals first | ((repeat cases ‹_∧_›); first | assumption | exact Ye) | exact lv)
@[reducible,instance] def Q1b[Y0]{r2}{s}:=upL (N:=N) (s:=s) (Nc.eq_def N r2) (fun t=>t.1) r2.length (fun t=>sz r2≤40∧t.2.length≤t.1∧sz t.2≤40∧Qu (fun m:Qp=>Aft m.1) r2∧Qu (fun m:Vr=>Aft m.1.1) t.2∧r2.length≤40) (fun r:(((List Vr)))=>sz r≤40∧Qu (fun m:Vr=>Aft m.1.1) r) (step:=by
  intro s h h0 h1 h2 hw
  try simp only[sS,reduceCtorEq]at *
  repeat' (first | intro _ | apply And.intro)
  all_goals first | ((repeat cases ‹_∧_›); first | assumption | exact Ud (by assumption) (K7 (Zi (P:=fun m:Qp=>Aft m.1) (by assumption) (by assumption)))) | exact lv)
@[reducible,instance] def Q9j[Y0]{x0 x1}:=mkW (Ek.eq_1 N x0 x1) (x0.length≤40∧Qu (fun m:Ql=>Aft m.1) x0) (fun r=>sz r≤40∧Qu (fun m:Vr=>Aft m.1.1) r) (k:=by
  intro h
  try simp only[sS,reduceCtorEq]at *
  repeat' (first | intro _ | apply And.intro)
  all_goals first | ((repeat cases ‹_∧_›); first | assumption | exact Ye) | exact lv)
@[reducible,instance] def Jfw{x0}:=mkW (Z3.eq_1 N x0) (True) (fun r=>r=true→0≤x0.1∧x0.1<x0.2∧x0.2≤12622780800)
@[reducible,instance] def Q64{x0 x1}:=mkW (G4.eq_1 N x0 x1) (True) (fun r=>True)
@[reducible,instance] def Jcv{r1 x2}{s}:=upL (N:=N) (s:=s) (Qd4.eq_def N r1 x2) (fun t=>t.1) r1.length (fun t=>sz r1≤9223372036854775807∧r1.length≤9223372036854775807) (fun r:((Qe×Str×Bool×Bool)⊕(Bool×Vr))=>sz r≤(sz r1))
@[reducible,instance] def Jle[Y0]{x0 x1 x2}:=mkW (El.eq_1 N x0 x1 x2) (x0.length≤40∧Qu (fun m:Ql=>Aft m.1) x0) (fun r=>sz r≤40) (k:=by
  intro h
  try simp only[sS,reduceCtorEq]at *
  repeat' (first | intro _ | apply And.intro)
  all_goals first | ((repeat cases ‹_∧_›); first | assumption) | exact lv)
@[reducible,instance] def Jcw{x0:Int}:WP (Kt N x0) (fun R=>(2000≤x0∧x0≤2400)∧∀r:Int,r=bef x0→R r):=Qg3 fun h=>by
 obtain⟨h0,h1⟩:=h
 have e1:IntKind.wrap .i64 (x0 - 2000)=x0 - 2000:=Q8 (by omega) (by omega)
 have e2:IntKind.wrap .i64 (365*(x0 - 2000))=365*(x0 - 2000):=Q8 (by omega) (by omega)
 rw[Kt.eq_1,e1,e2]
 by_cases hc:x0 - 2000>0
 ·have e3:IntKind.wrap .i64 (x0 - 2000 - 1)=x0 - 2001:=by rw[Q8 (by omega) (by omega)]; omega
  rw[if_pos (by simpa using hc),e3,QN (by omega),QN (by omega),QN (by omega)]
  refine⟨_,rfl,?_⟩
  simp (disch:=omega) only [Q8]
  unfold bef
  rw[if_pos (by omega)]
  try omega
 ·rw[if_neg (by simpa using hc)]
  refine⟨_,rfl,?_⟩
  unfold bef
  rw[if_neg (by omega)]
  try omega
@[reducible,instance] def Qqc{x0:Int}:WP (Tx N x0) (fun R=>True∧∀r:Bool,lpd x0=(if r=true then 1 else 0)→R r):=Qg3 fun h=>by
 refine⟨_,rfl,?_⟩
 unfold lpd
 simp only[JA,QQ,beq_iff_eq,bne_iff_ne,ne_eq]
@[reducible,instance] def Jgt{x0 x1:Int}:WP (Xd N x0 x1) (fun R=>(1≤x1∧x1≤12)∧∀r:Int,((28≤r∧r≤31)∧r=mon x0 x1)→R r):=Qg3 fun h=>by
 have hx:x1=1∨x1=2∨x1=3∨x1=4∨x1=5∨x1=6∨x1=7∨x1=8∨x1=9∨x1=10∨x1=11∨x1=12:=by omega
 unfold mon
 rcases hx with rfl | rfl | rfl | rfl | rfl | rfl | rfl | rfl | rfl | rfl | rfl | rfl
 case inr.inl =>
  obtain⟨b,e,hb⟩:=(Qqc (N:=N) (x0:=x0)).spec (fun b=>lpd x0=(if b=true then 1 else 0)) ⟨trivial,fun _ h=>h⟩
  rw[Xd.eq_1,e]
  cases b
  ·exact⟨28,rfl,by simp at hb; rw[hb]; decide⟩
  ·exact⟨29,rfl,by simp at hb; rw[hb]; decide⟩
 all_goals exact⟨_,rfl,by simp⟩
@[reducible,instance] def Q9k{x0}{s}:=mkL (N:=N) (s:=s) (Qbk.eq_def N x0) (fun t=>(2400 - t.1).toNat) (fun t=>x0<146097∧2000≤t.1∧t.1≤2399∧bef t.1≤x0∧t.2.1=1∧t.2.2=0) (fun r:((By))=>2000≤r.1∧r.1≤2399∧bef r.1≤x0∧x0<bef r.1+365+lpd r.1∧r.2.1=1) (step:=by
  intro s h
  have g0:=Qt3 s.1; have g1:=Jk6; have g2:=(show 2000≤s.1∧s.1≤2399→IntKind.wrap .i64 (s.1+1)=s.1+1 from fun a=>Q8 (by omega) (by omega))
  try simp only[sS,reduceCtorEq]at *
  repeat' (first | intro _ | apply And.intro)
  all_goals first | exact lv)
@[reducible,instance] def Q9l{s}:=mkL (N:=N) (s:=s) (Qbl.eq_def N) (fun t=>(13 - t.2.2.1).toNat) (fun t=>0≤t.1∧t.1≤366∧1≤t.2.2.1∧t.2.2.1≤12∧2000≤t.2.1∧t.2.1≤2399∧t.1<lft t.2.1 t.2.2.1∧t.2.1=s.2.1∧s.1 - lft s.2.1 s.2.2.1=t.1 - lft t.2.1 t.2.2.1) (fun r:((Int×By))=>0≤r.1∧r.1≤366∧2000≤r.2.1∧r.2.1≤2399∧1≤r.2.2.1∧r.2.2.1≤12∧r.2.1=s.2.1∧r.1 - lft r.2.1 r.2.2.1=s.1 - lft s.2.1 s.2.2.1∧r.1<mon r.2.1 r.2.2.1) (step:=by
  intro s h
  have g0:=Qt2 s.2.1; have g1:=Qmb s.2.1 s.2.2.1; have g2:=Q9h s.2.1; have g3:=(show 1≤s.2.2.1∧s.2.2.1≤12→IntKind.wrap .i64 (s.2.2.1+1)=s.2.2.1+1 from fun a=>Q8 (by omega) (by omega)); have g4:=(show ∀d:Int,0≤s.1∧s.1≤366→28≤d∧d≤31→IntKind.wrap .i64 (s.1 - d)=s.1 - d from fun d a b=>Q8 (by omega) (by omega))
  try simp only[sS,reduceCtorEq]at *
  repeat' (first | intro _ | apply And.intro)
  all_goals first | exact lv)
@[reducible,instance] def Qqd{x0}:=mkW (Tz.eq_1 N x0) (0≤x0∧x0<146097) (fun r=>(2000≤r.1∧r.1≤2399)∧(1≤r.2.1∧r.2.1≤12)∧(1≤r.2.2∧r.2.2≤mon r.1 r.2.1)∧x0=bef r.1+(365+lpd r.1 - lft r.1 r.2.1)+r.2.2 - 1) (k:=by
  intro h
  have g0:=Qt2; have g1:=Qt4; have g2:=Jcp; have g3:=(show 0≤x0∧x0<146097→IntKind.wrap .i64 (2000+IntKind.wrap .i64 (Int.tdiv x0 366))=2000+x0 / 366 from fun a=>by rw[QN (by omega),Q8 (n:=x0 / 366) (by omega) (by omega),Q8 (by omega) (by omega)]); have g4:=(show ∀y:Int,2000≤y→bef y≤x0→x0<146097→IntKind.wrap .i64 (x0 - bef y)=x0 - bef y from fun y a b c=>by have:=Qt4 y a; exact Q8 (by omega) (by omega)); have g5:=Q9i; have g6:=(show ∀d:Int,0≤d∧d≤366→IntKind.wrap .i64 (d+1)=d+1 from fun d a=>Q8 (by omega) (by omega))
  try simp only[sS,reduceCtorEq]at *
  repeat' (first | intro _ | apply And.intro)
  all_goals first | exact lv)
@[reducible,instance] def Qn5{x0 x1:Int}:WP (Hx N x0 x1) (fun R=>(0≤x1∧x1≤12622780799∧1≤x0∧x0≤28)∧∀r:Int,Qpf x0 x1 r→R r):=Qg3 fun h=>by
 obtain⟨h0,h1,h2,h3⟩:=h
 have e:IntKind.wrap .i64 (Int.tdiv x1 86400)=x1 / 86400:=by rw[QN (by omega),Q8 (by omega) (by omega)]
 obtain⟨w,ew,q1,q2,q3,q4⟩:=(Qqd (N:=N) (x0:=x1 / 86400)).spec _ ⟨⟨by omega,by omega⟩,fun r h=>h⟩
 have k:=Jlb (y:=w.1) (m:=w.2.1) (d:=w.2.2) (x:=x1) (a:=x0) q1 q2 q3 q4 ⟨h2,h3⟩
 have e1:IntKind.wrap .i64 (w.1 - 2000)=w.1 - 2000:=Q8 (by omega) (by omega)
 have e2:IntKind.wrap .i64 (12*(w.1 - 2000))=12*(w.1 - 2000):=Q8 (by omega) (by omega)
 have e3:IntKind.wrap .i64 (12*(w.1 - 2000)+w.2.1)=12*(w.1 - 2000)+w.2.1:=Q8 (by omega) (by omega)
 have e4:IntKind.wrap .i64 (12*(w.1 - 2000)+w.2.1 - 1)=12*(w.1 - 2000)+w.2.1 - 1:=Q8 (by omega) (by omega)
 have e5:IntKind.wrap .i64 (12*(w.1 - 2000)+w.2.1 - 1 - 1)=12*(w.1 - 2000)+w.2.1 - 1 - 1:=Q8 (by omega) (by omega)
 rw[Hx.eq_1,e,ew,QY,e1,e2,e3,e4,e5]
 by_cases hc:w.2.2<x0
 ·rw[if_pos (by simpa using hc)]
  exact⟨_,rfl,k.1 hc⟩
 ·rw[if_neg (by simpa using hc)]
  exact⟨_,rfl,k.2 hc⟩
@[reducible,instance] def Jcx{x0 x1}:=mkW (Mi.eq_1 N x0 x1) (True) (fun r=>(r≠0→2000≤x0∧x0≤2399∧1≤x1∧x1≤12∧r≤31)∧(2000≤x0→x0≤2399→1≤x1→x1≤12→28≤r)∧(2399<x0→r=0))
@[reducible,instance] def Jcy{x0}{s}:=upI (N:=N) (s:=s) (Qeb.eq_def N x0) (fun t=>t.2) (x0.2.1) (fun t=>1≤t.2∧t.2≤x0.2.1∧x0.2.1≤12∧0≤t.1∧t.1≤150000+31*t.2∧t.1=s.1+(lft x0.1 s.2 - lft x0.1 t.2)) (fun r:((Int))=>r=s.1+(lft x0.1 s.2 - lft x0.1 x0.2.1)) (step:=by
  intro s h h0 hw
  have g0:=Qmb x0.1 s.2; have g1:=Jk9 x0.1 s.2; have g2:=Q9i x0.1 s.2; have g3:=(show ∀d:Int,0≤s.1→s.1≤200000→28≤d∧d≤31→IntKind.wrap .i64 (s.1+d)=s.1+d from fun d a b c=>Q8 (by omega) (by omega))
  try simp only[sS,reduceCtorEq]at *
  repeat' (first | intro _ | apply And.intro)
  all_goals first | exact lv)
attribute [local instance 1300] Jcq in
@[reducible,instance] def Qt8{x0}:=mkW (Qc6.eq_1 N x0) (True) (fun r=>(2000≤x0.1→x0.1≤2399→1≤x0.2.1→x0.2.1≤12→1≤x0.2.2→x0.2.2≤28→r.2=0∧r.1=bef x0.1+(365+lpd x0.1 - lft x0.1 x0.2.1)+x0.2.2 - 1)∧(x0.1=2400→1≤x0.2.2→r.2≠0)) (k:=by
  intro h
  have g0:=Qt4; have g1:=(show 2000≤x0.1∧x0.1≤2399∧1≤x0.2.2∧x0.2.2≤31→IntKind.wrap .i64 (IntKind.wrap .i64 (bef x0.1+x0.2.2) - 1)=bef x0.1+x0.2.2 - 1 from fun a=>by have:=Qt4 x0.1 a.1; rw[Q8 (n:=bef x0.1+x0.2.2) (by omega) (by omega),Q8 (by omega) (by omega)]); have g2:=Jcp x0.1
  try simp only[sS,reduceCtorEq]at *
  repeat' (first | intro _ | apply And.intro)
  all_goals first | exact lv)
@[reducible,instance] def Jfx{x0 x1:Int}:WP (Hy N x0 x1) (fun R=>((0≤x1∧x1≤4800)∧1≤x0∧x0≤28)∧∀r:Int,r=bgn x0 x1→R r):=Qg3 fun h=>by
 obtain⟨⟨h0,h1⟩,h2,h3⟩:=h
 have e:IntKind.wrap .i64 (2000+IntKind.wrap .i64 (Int.tdiv x1 12))=2000+x1 / 12:=by rw[QN (by omega),Q8 (n:=x1 / 12) (by omega) (by omega),Q8 (by omega) (by omega)]
 have e2:IntKind.wrap .i64 (Int.tmod x1 12+1)=x1 % 12+1:=by rw[JE (by omega),Q8 (by omega) (by omega)]
 obtain⟨w,ew,q1,q2⟩:=(Qt8 (N:=N) (x0:=(2000+x1 / 12,x1 % 12+1,x0))).spec _ ⟨trivial,fun r h=>h⟩
 rw[Hy.eq_1,e,e2,ew,QY]
 unfold bgn
 by_cases hc:x1=4800
 ·subst hc
  rw[if_pos (by simpa using q2 rfl h2),if_pos rfl]; exact⟨_,rfl,rfl⟩
 ·have q:=q1 (by simp only; omega) (by simp only; omega) (by simp only; omega) (by simp only; omega) h2 h3
  have hb:=Qt4 (2000+x1 / 12) (by omega)
  have hl:=Jk9 (2000+x1 / 12) (x1 % 12+1) (by omega)
  have hp:=Qt2 (2000+x1 / 12)
  simp only at q
  rw[if_neg (by simp[q.1]),if_neg hc]
  refine⟨_,rfl,?_⟩
  rw[q.2]
  unfold em
  rw[Q8 (by omega) (by omega)]
  omega
@[reducible,instance] def Jfy{x0 x1}:=mkW (Pq.eq_1 N x0 x1) (-1≤x1∧x1≤4799∧1≤x0∧x0≤28) (fun r=>Jrp x0 x1 r) (k:=by
  intro h
  have g0:=(show -1≤x1∧x1≤4799→IntKind.wrap .i64 (x1+1)=x1+1 from fun a=>Q8 (by omega) (by omega))
  try simp only[sS,reduceCtorEq]at *
  repeat' (first | intro _ | apply And.intro)
  all_goals first | (refine⟨?_,?_⟩<;>grind) | exact lv)
@[reducible] def Qg7{N:Nat}[Ig N]{x0 m:Int}{x1:Int×Int}(ha:1≤x0∧x0≤28)(hx:0≤x1.1∧x1.1<x1.2∧x1.2≤12622780800)(hm:Qpf x0 x1.1 m)(s:Int×List (Int×Int)) :=
 mkL (N:=N) (s:=s) (Pr.eq_def N x0 x1) (fun t=>(4801 - t.1).toNat) (fun t=>m≤t.1∧t.1≤4800∧(t.2.length:Int)=t.1 - m∧Qu (Jft x1.1 x1.2) t.2∧(t.2.length:Int)≤(x1.2 - x1.1) / 2419200+3) (fun r:List (Int×Int)=>(r.length:Int)≤(x1.2 - x1.1) / 2419200+3∧Qu (Jft x1.1 x1.2) r) (hμ:=fun t h=>by have:=hm.lo; have:=h.1; omega) (step:=by
  intro t h
  obtain⟨h1,h2,h3,h4,h5⟩:=h
  have e1:IntKind.wrap .i64 (x1.2 - 1)=x1.2 - 1:=Q8 (by omega) (by omega)
  have hlo:=hm.lo
  have e2:IntKind.wrap .i64 (t.1+1)=t.1+1:=Q8 (by omega) (by omega)
  rw[e1,e2]
  refine⟨⟨by omega,by omega,ha.1,ha.2⟩,fun n hn=>⟨fun hc=>?_,fun hc=>⟨h5,h4⟩⟩⟩
  have hc:=of_decide_eq_true hc
  have hh:=hn.hi
  have q:=Jld ha hx.1 hx.2.1 hx.2.2 hm hn (by omega)
  refine⟨⟨by omega,by omega,ha.1,ha.2⟩,fun p hp=>⟨?_,?_⟩⟩
  ·rw[XH]; omega
  ·refine⟨⟨by simp only; omega,by simp only; omega,by simp only[List.length_append,XH]; omega,?_,by simp only[List.length_append,XH]; omega⟩,by simp only; omega⟩
   exact Ud h4 (K7 (Jlc ha hx.1 hx.2.1 hx.2.2 hp hm hn h1 hc)))
@[reducible,instance] def Jcz{x0:Int}{x1:Int×Int}:WP (Ge N x0 x1) (fun R=>True∧∀r:List (Int×Int),((r.length:Int)≤max 0 ((x1.2 - x1.1) / 2419200+3)∧r.length≤30000∧Qu (Jft x1.1 x1.2) r)→R r):=Qg3 fun _=>by
 rw[Ge.eq_1]
 by_cases hc:(((((decide (x0<1))||(decide (x0>28)))||(decide (x1.1<0)))||(decide (x1.1≥x1.2)))||(decide (x1.2>12622780800)))=true
 ·rw[if_pos hc]
  exact⟨_,rfl,by simp only[JY]; omega,by simp,Ye⟩
 ·rw[if_neg hc]
  simp only[Bool.not_eq_true,JR,decide_eq_false_iff_not]at hc
  obtain⟨m,em,hm⟩:=(Qn5 (N:=N) (x0:=x0) (x1:=x1.1)).spec _ ⟨⟨by omega,by omega,by omega,by omega⟩,fun r h=>h⟩
  have hlo:=hm.lo; have hhi:=hm.hi
  obtain⟨r,er,h1,h2⟩:=(Qg7 (N:=N) (x0:=x0) (x1:=x1) ⟨by omega,by omega⟩ ⟨by omega,by omega,by omega⟩ hm (m,[])).spec _ ⟨⟨JT _,by simp only; omega,by simp,Ye,by simp only[JY]; omega⟩,fun r h=>h⟩
  rw[em,QY,er]
  exact⟨r,rfl,by omega,by omega,h2⟩
@[reducible,instance] def Qxl{x0 ce}{s}:=upL (N:=N) (s:=s) (Dc.eq_def N x0 ce) (fun t=>t) x0.2.2.1.length (fun t=>sz x0≤40) (fun r:((Unit)⊕(Bool))=>True)
@[reducible,instance] def Q5k{x0 ce}:=mkW (As.eq_1 N x0 ce) (sz x0≤40) (fun r=>True)
@[reducible,instance] def Q5l{x0 x1}:=mkW (At.eq_1 N x0 x1) (True) (fun r=>True)
@[reducible,instance] def Q5m{x0 x1}:=mkW (Au.eq_1 N x0 x1) (True) (fun r=>r=(x0.1,x1.2))
@[reducible,instance] def Qmc[Y0]{x0}{s}:=upL (N:=N) (s:=s) (Xx.eq_def N x0) (fun t=>t.1) x0.length (fun t=>x0.length≤40∧t.2.length≤t.1∧Qu (fun m:Qe=>Aft m.1) x0∧Qu (fun m:Qe=>Aft m.1) t.2) (fun r:(((List Qe)))=>r.length≤40∧Qu (fun m:Qe=>Aft m.1) r) (step:=by
  intro s h h0 h1 h2 hw
  try simp only[sS,reduceCtorEq]at *
  repeat' (first | intro _ | apply And.intro)
  all_goals first | ((repeat cases ‹_∧_›); first | assumption | ((with_reducible refine allL_set (by assumption) ?_); dsimp only; exact Zi (P:=fun m:Qe=>Aft m.1) (by assumption) (by assumption)) | exact Ud (by assumption) (K7 (Zi (P:=fun m:Qe=>Aft m.1) (by assumption) (by assumption)))) | exact lv)
@[reducible,instance] def Qpg[Y0]{x0}:=mkW (Zd.eq_1 N x0) (x0.length≤40∧Qu (fun m:Qe=>Aft m.1) x0) (fun r=>r.length≤40∧Qu (fun m:Qe=>Aft m.1) r) (k:=by
  intro h
  try simp only[sS,reduceCtorEq]at *
  repeat' (first | intro _ | apply And.intro)
  all_goals first | ((repeat cases ‹_∧_›); first | assumption | exact Ye) | exact lv)
@[reducible,instance] def Q1c[Y0]{r1 ce}{s}:=upL (N:=N) (s:=s) (Nf.eq_def N r1 ce) (fun t=>t.1) r1.length (fun t=>sz r1≤40∧t.2.length≤t.1∧Qu (fun m:Vr=>Aft m.1.1) r1∧Qu (fun m:Qe=>Aft m.1) t.2∧r1.length≤40) (fun r:(((List Qe)))=>r.length≤40∧Qu (fun m:Qe=>Aft m.1) r) (step:=by
  intro s h h0 h1 h2 hw
  try simp only[sS,reduceCtorEq]at *
  repeat' (first | intro _ | apply And.intro)
  all_goals first | ((repeat cases ‹_∧_›); first | assumption | exact Ud (by assumption) (K7 (Zi (P:=fun m:Vr=>Aft m.1.1) (by assumption) (by assumption)))) | exact lv)
@[reducible,instance] def Q9m[Y0]{x0 x1 ce}:=mkW (D5.eq_1 N x0 x1 ce) (x0.length≤40∧Qu (fun m:Ql=>Aft m.1) x0) (fun r=>r.length≤40∧Qu (fun m:Qe=>Aft m.1) r) (k:=by
  intro h
  try simp only[sS,reduceCtorEq]at *
  repeat' (first | intro _ | apply And.intro)
  all_goals first | ((repeat cases ‹_∧_›); first | assumption | exact Ye) | exact lv)
@[reducible,instance] def Q9n[Y0]{x0 x1 x2}:=mkW (D6.eq_1 N x0 x1 x2) (x0.length≤40∧Qu (fun m:Ql=>Aft m.1) x0) (fun r=>r.length≤40∧Qu (fun m:Qe=>Aft m.1) r) (k:=by
  intro h
  try simp only[sS,reduceCtorEq]at *
  repeat' (first | intro _ | apply And.intro)
  all_goals first | ((repeat cases ‹_∧_›); first | assumption | exact Ye) | exact lv)
@[reducible,instance] def Jgu{x0 x1}:=mkW (Tw.eq_1 N x0 x1) (True) (fun r=>True)
@[reducible,instance] def Q5n{v17 x1 x21 r53}{s}:=upL (N:=N) (s:=s) (Po.eq_def N v17 x1 x21 r53) (fun t=>t) v17.length (fun t=>v17.length≤40) (fun r:((Int))=>0≤r∧r≤v17.length)
@[reducible,instance] def Q5o{x0 x1}:=mkW (Wx.eq_1 N x0 x1) (True) (fun r=>r.2=true→r.1.1<r.1.2∧0≤r.1.1∧r.1.2≤x0.2∧r.1.2≤x1.2∧(r.2=true→x0.1≤r.1.1))
@[reducible,instance] def Q5p[Y0]{x0 ce cd ck}:=mkW (Av.eq_1 N x0 ce cd ck) (0≤ce∧ce<Y0.hi∧Aft x0.1∧cd.length≤51200∧Qu Nr cd) (fun r=>(r.length:Int)≤cd.length+32∧Qu Nr r) (k:=by
  intro h
  have g0:=(show 0≤ce∧ce≤12622780800→IntKind.wrap .i64 (ce+1)=ce+1 from fun a=>Q8 (by omega) (by omega)); have g1:=(Y0.ok); have g2:=(Y0.le); have g3:=h.2.2.1.c; have g4:=h.2.2.2.2
  try simp only[sS,reduceCtorEq]at *
  repeat' (first | intro _ | apply And.intro)
  all_goals first | exact Ud g4 (Jn8 (And.right (And.right (by assumption))) (by grind) (by grind)) | exact lv)
@[reducible,instance] def Qxm[Y0]{x0 x1}{s}:=upL (N:=N) (s:=s) (Dd.eq_def N x0 x1) (fun t=>t.1) x0.length (fun t=>x0.length≤51200∧Qu Nr x0∧0≤x1∧x1≤1∧s.2.length≤102400∧0≤s.1∧t.2.length≤s.2.length+2*(t.1 - s.1)∧Qu Qil t.2) (fun r:(((List Q9)))=>r.length≤s.2.length+2*x0.length∧Qu Qil r) (step:=by
  intro s h h0 h1 h2 hw
  try simp only[sS,reduceCtorEq]at *
  repeat' (first | intro _ | apply And.intro)
  all_goals first | ((repeat cases ‹_∧_›); have q:=fun d=>Jct (k:=x1) (d:=d) (Zi (P:=Nr) (by assumption) (by assumption)) (by assumption) (by assumption) (by assumption) (by assumption); exact Ud (by assumption) (Q5d (q 1).1 (q (-1)).2)) | exact lv)
@[reducible,instance] def Q5q[Y0]{x0 x1 c7}:=mkW (Aw.eq_1 N x0 x1 c7) (x0.length≤51200∧Qu Nr x0∧0≤x1∧x1≤1∧c7.length≤102400∧Qu Qil c7) (fun r=>r.length≤c7.length+2*x0.length∧Qu Qil r)
@[reducible,instance] def Qt9[Y0]{x0 x1}{s}:=upL (N:=N) (s:=s) (Fg.eq_def N x0 x1) (fun t=>t.1) x0.length (fun t=>x0.length≤51200∧Qu Nr x0∧0≤x1∧x1≤1∧s.2.length≤102400∧0≤s.1∧t.2.length≤s.2.length+2*(t.1 - s.1)∧Qu Qil t.2) (fun r:(((List Q9)))=>r.length≤s.2.length+2*x0.length∧Qu Qil r) (step:=by
  intro s h h0 h1 h2 hw
  try simp only[sS,reduceCtorEq]at *
  repeat' (first | intro _ | apply And.intro)
  all_goals first | ((repeat cases ‹_∧_›); have q:=fun d=>Jct (k:=x1) (d:=d) (Zi (P:=Nr) (by assumption) (by assumption)) (by assumption) (by assumption) (by assumption) (by assumption); exact Ud (by assumption) (Q5d (q 1).1 (q (-1)).2)) | exact lv)
@[reducible,instance] def Qxn[Y0]{x0 x1 c7}:=mkW (Gq.eq_1 N x0 x1 c7) (x0.length≤51200∧Qu Nr x0∧0≤x1∧x1≤1∧c7.length≤102400∧Qu Qil c7) (fun r=>r.length≤c7.length+2*x0.length∧Qu Qil r)
@[reducible,instance] def Q9o{x0 x1}:=mkW (D7.eq_1 N x0 x1) (True) (fun r=>True)
@[reducible,instance] def Q1d[Y0]{r3}{s}:=upL (N:=N) (s:=s) (Ng.eq_def N r3) (fun t=>t.2.1) r3.length (fun t=>r3.length≤204800∧Qu Qil r3∧t.2.2.2.length=2∧t.2.2.1.length≤t.2.1∧(t.1=true→1≤t.2.2.1.length)∧Qu Nr t.2.2.1) (fun r:(((List Qe)))=>r.length≤204800∧Qu Nr r) (step:=by
  intro s h h0 h1 h2 hw
  have g0:=h.2.1; have g1:=h.2.2.2.2.2; have g2:=(show ∀c∈r3,0≤c.2.1∧c.2.1≤1 from fun c hc=>(h.2.1.all c hc).side); have g3:=(show s.2.2.1.length≤204800→1≤s.2.2.1.length→IntKind.wrap .i64 ((s.2.2.1.length:Int) - 1)=(s.2.2.1.length:Int) - 1 from fun a b=>Q8 (by omega) (by omega))
  try simp only[sS,reduceCtorEq]at *
  repeat' (first | intro _ | apply And.intro)
  all_goals first | assumption | exact(g2 _ (by assumption)).1 | exact Int.lt_of_le_of_lt (g2 _ (by assumption)).2 (by omega) | exact Ud (by assumption) (K7 (Jn9 (Zi (by assumption) g0))) | exact allL_set (by assumption) (Joa (Zi (P:=Nr) (by assumption) (by assumption)) (Zi (P:=Qil) (by assumption) g0)) | exact lv)
@[reducible,instance] def Q9p[Y0]{x0 x1}:=mkW (D8.eq_1 N x0 x1) (x0.length≤51200∧Qu Nr x0∧x1.length≤51200∧Qu Nr x1) (fun r=>r.length≤204800∧Qu Nr r) (k:=by
  intro h
  try simp only[sS,reduceCtorEq]at *
  repeat' (first | intro _ | apply And.intro)
  all_goals first | exact Ye | exact Qhq (P:=Qil) (by grind) (fun c h=>⟨h.side,h.all⟩) | exact lv)
@[reducible,instance] def Jfz[Y0]{x0}:=mkW (Ps.eq_1 N x0) (x0.length≤51200∧Qu Nr x0) (fun r=>r.length≤204800∧Qu Nr r) (k:=by
  intro h
  try simp only[sS,reduceCtorEq]at *
  repeat' (first | intro _ | apply And.intro)
  all_goals first | exact Ye | exact Qhq (P:=Qil) (by grind) (fun c h=>⟨h.side,h.all⟩) | exact lv)
@[reducible,instance] def Q9q[Y0]{x22}{s}:=upL (N:=N) (s:=s) (Qbm.eq_def N x22) (fun t=>t.1) x22.2.2.2.length (fun t=>x22.2.2.2.length≤40∧0≤t.2.2.1∧t.2.2.1<Y0.hi∧0≤s.1∧s.2.2.2.length≤49920∧t.2.2.2.length≤s.2.2.2.length+32*(t.1 - s.1)∧Qu Nr t.2.2.2∧t.2.2.1=s.2.2.1∧Qu (fun m:Qe=>Aft m.1) x22.2.2.2) (fun r:((Int×Int×(List Qe)))=>r.2.1=s.2.2.1∧r.2.2.length≤s.2.2.2.length+1280∧Qu Nr r.2.2) (step:=by
  intro s h h0 h1 h2 hw
  try simp only[sS,reduceCtorEq]at *
  repeat' (first | intro _ | apply And.intro)
  all_goals first | ((repeat cases ‹_∧_›); first | assumption | omega | exact Zi (P:=fun m:Qe=>Aft m.1) (by assumption) (by assumption)) | exact lv)
@[reducible,instance] def Q9r[Y0]{x0}{s}:=upL (N:=N) (s:=s) (Qbn.eq_def N x0) (fun t=>t.1) x0.length (fun t=>sz x0≤40∧0≤t.2.2.1∧t.2.2.1<Y0.hi∧t.2.2.2.length≤1280*t.1∧Qu Nr t.2.2.2∧Qu (fun h:Q3=>Qu (fun m:Qe=>Aft m.1) h.2.2.2) x0∧x0.length≤40) (fun r:((Int×(List Qe)))=>r.2.length≤51200∧Qu Nr r.2) (step:=by
  intro s h h0 h1 h2 hw
  try simp only[sS,reduceCtorEq]at *
  repeat' (first | intro _ | apply And.intro)
  all_goals first | ((repeat cases ‹_∧_›); first | assumption | omega | exact Ye | exact Zi (P:=fun h:Q3=>Qu (fun m:Qe=>Aft m.1) h.2.2.2) (by assumption) (by assumption)) | exact lv)
@[reducible,instance] def Q9s[Y0]{r35 v33}{s}:=upL (N:=N) (s:=s) (Qbo.eq_def N r35 v33) (fun t=>t.1) r35.length (fun t=>r35.length≤204800∧Qu Nr r35∧t.2.length≤35*t.1) (fun r:(((List Qe)))=>r.length≤7168000) (step:=by
  intro s h h0 h1 h2 hw
  have g0:=(fun p (hp:p∈r35)=>Js8 (h.2.1.all p hp):∀p∈r35,p.2 - p.1≤74563200)
  try simp only[sS,reduceCtorEq]at *
  repeat' (first | intro _ | apply And.intro)
  all_goals first | exact lv)
@[reducible,instance] def Jgv[Y0]{x0 x1 x2}:=mkW (T0.eq_1 N x0 x1 x2) (sz x0≤40∧0≤x2∧x2<Y0.hi∧Qu (fun h:Q3=>Qu (fun m:Qe=>Aft m.1) h.2.2.2) x0) (fun r=>r.length≤7168000) (k:=by
  intro h
  try simp only[sS,reduceCtorEq]at *
  repeat' (first | intro _ | apply And.intro)
  all_goals first | exact Ye | exact lv)
@[reducible,instance] def Q5r[Y0]{x0 x1}{s}:=upL (N:=N) (s:=s) (Pp.eq_def N x0 x1) (fun t=>t.1) x0.length (fun t=>x0.length≤40∧t.2.2.2.length≤t.1∧sz t.2.2.2≤40∧Qu (fun m:Ql=>Aft m.1) x0∧Qu (fun h:Q3=>Qu (fun m:Qe=>Aft m.1) h.2.2.2) t.2.2.2) (fun r:(((List Q3)))=>sz r≤40∧Qu (fun h:Q3=>Qu (fun m:Qe=>Aft m.1) h.2.2.2) r) (step:=by
  intro s h h0 h1 h2 hw
  try simp only[sS,reduceCtorEq]at *
  repeat' (first | intro _ | apply And.intro)
  all_goals first | ((repeat cases ‹_∧_›); first | assumption | exact Qi9 _ | exact Jfr (by assumption) | exact Jk7 (by assumption) | ((with_reducible refine Ud (Ud (Q5g (by assumption) (by assumption)) (K7 ?_)) (Q5g (by assumption) (by assumption))); dsimp only; assumption)) | exact lv)
@[reducible,instance] def Jc0[Y0]{x0 x1}:=mkW (Mh.eq_1 N x0 x1) (x0.length≤40∧Qu (fun m:Ql=>Aft m.1) x0) (fun r=>sz r≤40∧Qu (fun h:Q3=>Qu (fun m:Qe=>Aft m.1) h.2.2.2) r) (k:=by
  intro h
  try simp only[sS,reduceCtorEq]at *
  repeat' (first | intro _ | apply And.intro)
  all_goals first | ((repeat cases ‹_∧_›); first | assumption | exact Ye) | exact lv)
@[reducible,instance] def Jlf{x0 ce c7}:=mkW (Qc7.eq_1 N x0 ce c7) (True) (fun r=>True)
@[reducible,instance] def Qml{x0 ce c7}{s}:=upL (N:=N) (s:=s) (Wh.eq_def N x0 ce c7) (fun t=>t.1) x0.length (fun t=>x0.length≤40∧sz x0≤4096∧Qu (fun p:Qn=>p.2.2.2.2.2.length≤40) x0∧t.2.length≤t.1∧sz t.2≤4096∧Qu (fun p:Qn=>p.2.2.2.2.2.length≤40) t.2∧x0.length≤4096) (fun r:(((List Qn)))=>r.length≤40∧sz r≤4096∧Qu (fun p:Qn=>p.2.2.2.2.2.length≤40) r) (step:=by
  intro s h h0 h1 h2 hw
  try simp only[sS,reduceCtorEq]at *
  repeat' (first | intro _ | apply And.intro)
  all_goals first | exact Ye | exact Ud (by grind) (K7 (by grind [Qu.all])) | exact lv)
@[reducible,instance] def Qqe{x0 ce c7}:=mkW (Z4.eq_1 N x0 ce c7) (x0.length≤40∧sz x0≤4096∧Qu (fun p:Qn=>p.2.2.2.2.2.length≤40) x0) (fun r=>r.length≤40∧sz r≤4096∧Qu (fun p:Qn=>p.2.2.2.2.2.length≤40) r) (k:=by
  intro h
  try simp only[sS,reduceCtorEq]at *
  repeat' (first | intro _ | apply And.intro)
  all_goals first | exact Ye | exact lv)
@[reducible,instance] def Q9t{x0}{s}:=upL (N:=N) (s:=s) (Qbp.eq_def N x0) (fun t=>t.1) x0.2.2.2.2.2.length (fun t=>x0.2.2.2.2.2.length≤40∧sz x0≤4096∧t.2=x0.2.2.2.2.2.take t.1.toNat) (fun r:(((List Yn)))=>r=x0.2.2.2.2.2) (step:=by
  intro s h h0 h1 h2 hw
  try simp only[sS,reduceCtorEq]at *
  repeat' (first | intro _ | apply And.intro)
  all_goals first | grind [Ih,Rm,Bj.deep] | exact lv)
@[reducible,instance] def Jgw{x0}:=mkW (T1.eq_1 N x0) (x0.2.2.2.2.2.length≤40∧sz x0≤4096) (fun r=>r=x0)
@[reducible,instance] def Joc{x0 x1 x2}:=mkW (Qj0.eq_1 N x0 x1 x2) (x0.length≤40∧sz x0≤4096∧Qu (fun p:Qn=>p.2.2.2.2.2.length≤40) x0) (fun r=>r.2.2.2.2.2.2.length≤40∧sz r.2.2.2.2.2.2≤4096) (k:=by
  intro h
  have g0:=(fun p l hp q=>q.all p hp:∀(p:Qn) (l:List Qn),p∈l→Qu (fun p:Qn=>p.2.2.2.2.2.length≤40) l→p.2.2.2.2.2.length≤40)
  try simp only[sS,reduceCtorEq]at *
  repeat' (first | intro _ | apply And.intro)
  all_goals first | assumption | omega | ((simp (disch:=omega) only [Q8]at *)<;>omega) | exact g0 _ _ (by assumption) (And.right (And.right (by assumption))) | exact lv)
@[reducible,instance] def Qum{r12 x0 r4}{s}:=upL (N:=N) (s:=s) (Be.eq_def N r12 x0 r4) (fun t=>t.1) r12.length (fun t=>r12.length≤40∧sz r12≤4096∧t.2.length≤t.1∧sz t.2≤4096∧r12.length≤4096) (fun r:(((List Yu)))=>r.length≤40∧sz r≤4096)
@[reducible,instance] def Qun{x0 x2 x1}{s}:=upL (N:=N) (s:=s) (Bf.eq_def N x0 x2 x1) (fun t=>t) x0.2.2.2.length (fun t=>x0.2.2.2.length≤40∧x1.length≤40∧sz x1≤4096∧Qu (fun p:Qn=>p.2.2.2.2.2.length≤40) x1∧x1.length≤4096) (fun r:((Unit)⊕((List Yu)))=>∀t,r=.inr t→t.length≤40∧sz t≤4096)
@[reducible,instance] def Qz7{x0 x1 x2}:=mkW (Hz.eq_1 N x0 x1 x2) (sz x0≤40∧x1.length≤40∧sz x1≤4096∧Qu (fun p:Qn=>p.2.2.2.2.2.length≤40) x1) (fun r=>r.length≤40∧sz r≤4096)
@[reducible,instance] def Q5s{x0}{s}:=upL (N:=N) (s:=s) (Pt.eq_def N x0) (fun t=>t.1) x0.length (fun t=>sz x0≤1000000000000∧t.2=x0.take t.1.toNat∧x0.length≤1000000000000) (fun r:(((List Qa)))=>r=x0) (step:=by
  intro s h h0 h1 h2 hw
  try simp only[sS,reduceCtorEq]at *
  repeat' (first | intro _ | apply And.intro)
  all_goals first | grind [Ih,Rm,Bj.deep] | exact lv)
@[reducible,instance] def Jc1{x0}:=mkW (Mj.eq_1 N x0) (sz x0≤1000000000000) (fun r=>r=x0)
@[reducible,instance] def Jgx{x0}:=mkW (T3.eq_1 N x0) (sz x0≤1000000000000) (fun r=>r=x0)
@[reducible,instance] def Q65{x0 x1 x2}{s}:=upL (N:=N) (s:=s) (Sv.eq_def N x0 x1 x2) (fun t=>t) x0.length (fun t=>x0.length≤40) (fun r:((Unit)⊕(Bool))=>True)
@[reducible,instance] def Jf0{x0 x1 x2}:=mkW (Pu.eq_1 N x0 x1 x2) (x0.length≤40) (fun r=>True)
@[reducible,instance] def Q66{x0}{s}:=upL (N:=N) (s:=s) (Sw.eq_def N x0) (fun t=>t.1) x0.length (fun t=>x0.length≤1000000000000∧Qt6 t.2 x0.length) (fun r:(((List (Int×Int))))=>Qt6 r x0.length) (step:=by
  intro s h h0 h1 h2 hw
  try simp only[sS,reduceCtorEq]at *
  repeat' (first | intro _ | apply And.intro)
  all_goals first | exact Qxh | exact Qxi (by grind) (by omega) (by omega) | exact lv)
@[reducible,instance] def Jf1{x0}:=mkW (Pv.eq_1 N x0) (x0.length≤1000000000000) (fun r=>Qt6 r x0.length) (k:=by
  intro h
  try simp only[sS,reduceCtorEq]at *
  repeat' (first | intro _ | apply And.intro)
  all_goals first | exact Qxh | exact Qxi (by grind) (by omega) (by omega) | exact lv)
@[reducible,instance] def Jc2{x0 x1}{s}:=upL (N:=N) (s:=s) (Qec.eq_def N x0 x1) (fun t=>t) x0.length (fun t=>x0.length≤1000000000000) (fun r:((Int))=>0≤r∧r≤x0.length)
@[reducible,instance] def Jlg{x0 x1}:=mkW (Qc9.eq_1 N x0 x1) (x0.length≤1000000000000) (fun r=>0≤r.1∧r.1<r.2.length∧r.2.length≤x0.length+1) (k:=by
  intro h
  try simp only[sS,reduceCtorEq]at *
  repeat' (first | intro _ | apply And.intro)
  all_goals first | exact(Qxj (by assumption) (by assumption)).1 | exact(Qxj (by assumption) (by assumption)).2 | exact lv)
@[reducible,instance] def Q67{x0 x1 x2}:=mkW (Yj.eq_1 N x0 x1 x2) (True) (fun r=>True)
@[reducible,instance] def Jlh{x0}:=mkW (Nw.eq_1 N x0) (True) (fun r=>True)
@[reducible,instance] def Jli{x0}:=mkW (K2.eq_1 N x0) (True) (fun r=>True)
@[reducible,instance] def Jgy{x0 x1}:=mkW (Yv.eq_1 N x0 x1) (True) (fun r=>True)
@[reducible,instance] def Jgz{x0 x1}:=mkW (T4.eq_1 N x0 x1) (True) (fun r=>True)
@[reducible,instance] def Q68{x0 x1 ce}:=mkW (G8.eq_1 N x0 x1 ce) (True) (fun r=>True)
@[reducible,instance] def Jlj{x0 x1}:=mkW (Qda.eq_1 N x0 x1) (True) (fun r=>True)
@[reducible,instance] def Q5t{x0 x2 r8 r7 x3}{s}:=upL (N:=N) (s:=s) (Pw.eq_def N x0 x2 r8 r7 x3) (fun t=>t.1) x0.length (fun t=>x0.length≤40∧0≤r7∧r7<r8.length) (fun r:((Qc))=>True)
@[reducible,instance] def Jc3{x0 x1 x2 x3}:=mkW (Fw.eq_1 N x0 x1 x2 x3) (x0.length≤40∧sz x1≤1000000000000) (fun r=>r.1=x1.1∧r.2.1.length≤x1.2.1.length+1∧r.2.2=x1.2.2)
@[reducible,instance] def Jlk{x0}:=mkW (Cb.eq_1 N x0) (sz x0≤1000000000000) (fun r=>r.2.2.2.2.2.2.2.2.2.2.length=x0.2.2.2.2.2.1.length)
@[reducible,instance] def Jrq{x0}:=mkW (Qbi.eq_1 N x0) (sz x0≤9223372036854775807) (fun r=>True)
@[reducible,instance] def Q9u{x0 x1}{s}:=upL (N:=N) (s:=s) (Qbj.eq_def N x0 x1) (fun t=>t) x0.length (fun t=>x0.length≤40) (fun r:((Unit)⊕(Int))=>∀u,r=.inr u→0<x0.length)
@[reducible,instance] def Jg0{x0 x1}:=mkW (Tv.eq_1 N x0 x1) (x0.length≤40) (fun r=>r≠0→0<x0.length)
@[reducible,instance] def Jc4{x0 x1}:=mkW (Fv.eq_1 N x0 x1) (True) (fun r=>True)
@[reducible,instance] def Jll{x0 x1 x2}:=mkW (Qc8.eq_1 N x0 x1 x2) (sz x1≤4096) (fun r=>r.2.2.2.2.2.2.2.2.2.2.length≤4096)
@[reducible,instance] def Jg1{x0 x1}:=mkW (T2.eq_1 N x0 x1) (True) (fun r=>True)
@[reducible,instance] def Q1e{c7 x1}{s}:=upL (N:=N) (s:=s) (Nh.eq_def N c7 x1) (fun t=>t.1) c7.length (fun t=>c7.length≤1000000000000∧t.2.2.2.2.2.2.2.2.2.2.2.length≤4096∧sz c7≤1000000000000) (fun r:((Int×Int×Str×Int×Int×Qe×Int×Int×Int×Bool×(List Str)))=>r.2.2.2.2.2.2.2.2.2.2.length≤4096)
@[reducible,instance] def Q1f{c7 v40 v41 v42 v43 v44 v50 v45 v46 v47 v48 v49}{s}:=upL (N:=N) (s:=s) (Ni.eq_def N c7 v40 v41 v42 v43 v44 v50 v45 v46 v47 v48 v49) (fun t=>t) c7.length (fun t=>c7.length≤1000000000000) (fun r:((Int))=>0≤r∧r≤c7.length)
@[reducible,instance] def Q9v{x1 c7 cd}:=mkW (D9.eq_1 N x1 c7 cd) (c7.length≤999999999999∧sz c7≤1000000000000∧sz x1≤4096) (fun r=>r.2.length≤c7.length+1∧sz r.2≤1000000000000)
@[reducible,instance] def Q69{x2}{s}:=upL (N:=N) (s:=s) (Sq.eq_def N x2) (fun t=>t.1) x2.1.length (fun t=>x2.1.length≤1000000000000∧sz x2.1≤1000000000000∧t.2.1.length≤t.1∧sz t.2.1≤1000000000000) (fun r:(((List Qa)×(List (Q5×Bool))))=>r.1.length≤x2.1.length∧sz r.1≤1000000000000)
@[reducible,instance] def Q7a{r118 x4}{s}:=upL (N:=N) (s:=s) (Sr.eq_def N r118 x4) (fun t=>t.1) r118.length (fun t=>r118.length≤40∧sz r118≤4096∧0≤s.1∧s.2.1.length≤999999999900∧t.2.1.length≤s.2.1.length+(t.1 - s.1)∧sz t.2.1≤1000000000000∧r118.length≤4096) (fun r:(((List Qa)×(List (Q5×Bool))))=>r.1.length≤s.2.1.length+40∧sz r.1≤1000000000000)
@[reducible,instance] def Q7b{r54 x1 x109 x4}{s}:=upL (N:=N) (s:=s) (Ss.eq_def N r54 x1 x109 x4) (fun t=>t.1) r54.length (fun t=>r54.length≤40∧sz r54≤40∧x1.length≤40∧sz x1≤4096∧Qu (fun p:Qn=>p.2.2.2.2.2.length≤40) x1∧0≤s.1∧s.2.1.length≤999999990000∧t.2.1.length≤s.2.1.length+40*(t.1 - s.1)∧sz t.2.1≤1000000000000∧x1.length≤4096) (fun r:(((List Qa)×(List (Q5×Bool))))=>r.1.length≤s.2.1.length+1600∧sz r.1≤1000000000000)
@[reducible,instance] def Q7c{r56 r54 x1 x4}{s}:=upL (N:=N) (s:=s) (Su.eq_def N r56 r54 x1 x4) (fun t=>t.1) r56.length (fun t=>r56.length≤7168000∧r54.length≤40∧sz r54≤40∧x1.length≤40∧sz x1≤4096∧Qu (fun p:Qn=>p.2.2.2.2.2.length≤40) x1∧0≤s.1∧s.2.1.length≤900000000000∧t.2.1.length≤s.2.1.length+1600*(t.1 - s.1)∧sz t.2.1≤1000000000000∧x1.length≤4096) (fun r:(((List Qa)×(List (Q5×Bool))))=>r.1.length≤s.2.1.length+11468800000∧sz r.1≤1000000000000)
@[reducible,instance] def Jf2[Y0]{x0 x1 x2 x3 x4}:=mkW (Cc.eq_1 N x0 x1 x2 x3 x4) (x0.length≤40∧x1.length≤40∧sz x1≤4096∧Qu (fun p:Qn=>p.2.2.2.2.2.length≤40) x1∧x2.1.length≤900000000000∧sz x2.1≤1000000000000∧x2.2.1.length≤1099511627∧x2.2.2.length≤1099511627∧Qu (fun m:Ql=>Aft m.1) x0∧(0<x0.length→x4<Y0.hi)) (fun r=>r.1.length≤x2.1.length+11468800000∧sz r.1≤1000000000000∧r.2.1=x2.2.1∧r.2.2=x2.2.2) (k:=by
  intro h
  have g0:=h.2.2.2.2.2.2.2.2.1; have g1:=h.2.2.2.2.2.2.2.2.2
  try simp only[sS,reduceCtorEq]at *
  repeat' (first | intro _ | apply And.intro)
  all_goals first | exact g0 | omega | exact lv)
@[reducible,instance] def Jlm{x0}:=mkW (Qdb.eq_1 N x0) (sz x0≤1000000000000) (fun r=>r.2.2.2.2.2.2.2.2.2.2.length=x0.2.2.2.2.2.1.length)
@[reducible,instance] def Q9w{x0}{s}:=upL (N:=N) (s:=s) (Qbq.eq_def N x0) (fun t=>t.1) x0.length (fun t=>sz x0≤1000000000000∧t.2.length=t.1∧sz t.2≤1000000000000∧x0.length≤1000000000000) (fun r:(((List Qa)))=>r.length=x0.length∧sz r≤1000000000000)
@[reducible,instance] def Jg2{x0}:=mkW (Im.eq_1 N x0) (sz x0≤1000000000000) (fun r=>r.length=x0.length∧sz r≤1000000000000)
@[reducible,instance] def Jf3{x0 x1}:=mkW (Xy.eq_1 N x0 x1) (True) (fun r=>True)
@[reducible,instance] def Jf4{x0 x1}:=mkW (Px.eq_1 N x0 x1) (True) (fun r=>True)
theorem Qkj{N:Nat}[Ig N]{x2:Int}{L:Int}{s:Int×List Int}:WP (Qm (Ia N x2) N s) (fun R=>((0≤s.1∧s.1≤x2∧x2≤L∧L≤1000000000000)∧s.2=[])∧∀r:List Int,((r.length:Int)=x2 - s.1∧Qu (fun i:Int=>0≤i∧i<L) r)→R r):=⟨fun R h=>(mkL (N:=N) (s:=s) (Ia.eq_def N x2) (fun t=>(x2 - t.1).toNat) (fun t=>0≤s.1∧s.1≤t.1∧t.1≤x2∧x2≤L∧L≤1000000000000∧(t.2.length:Int)=t.1 - s.1∧Qu (fun i:Int=>0≤i∧i<L) t.2) (fun r:List Int=>(r.length:Int)=x2 - s.1∧Qu (fun i:Int=>0≤i∧i<L) r) (step:=by
  intro t h
  try simp only[sS,reduceCtorEq]at *
  repeat' (first | intro _ | apply And.intro)
  all_goals first | assumption | omega | ((simp (disch:=omega) only [Q8]at *)<;>omega) | exact Ud (by grind) (K7 (by grind)) | grind)).spec R ⟨⟨h.1.1.1,JT _,h.1.1.2.1,h.1.1.2.2.1,h.1.1.2.2.2,by rw[h.1.2]; simp,by rw[h.1.2]; exact Ye⟩,h.2⟩⟩
attribute [local instance 1300] Jcq in
@[reducible,instance] def Q9x{r6 r7 x0}{s}:=mkL (N:=N) (s:=s) (Qbr.eq_def N r6 r7 x0) (fun t=>(r6.length - t.1+(r7.length - t.2.1)).toNat) (fun t=>r6.length+r7.length≤1000000000000∧Qu (fun i:Int=>0≤i∧i<(x0.length:Int)) r6∧Qu (fun i:Int=>0≤i∧i<(x0.length:Int)) r7∧0≤t.1∧t.1≤r6.length∧0≤t.2.1∧t.2.1≤r7.length∧(t.2.2.length:Int)=t.1+t.2.1∧Qu (fun i:Int=>0≤i∧i<(x0.length:Int)) t.2.2) (fun r:(((List Int)))=>r.length=r6.length+r7.length∧Qu (fun i:Int=>0≤i∧i<(x0.length:Int)) r) (step:=by
  intro s h
  have g0:=(fun i hi=>h.2.1.all i hi:∀i∈r6,0≤i∧i<(x0.length:Int)); have g1:=(fun i hi=>h.2.2.1.all i hi:∀i∈r7,0≤i∧i<(x0.length:Int))
  try simp only[sS,reduceCtorEq]at *
  repeat' (first | intro _ | apply And.intro)
  all_goals first | assumption | omega | ((simp (disch:=omega) only [Q8]at *)<;>omega) | exact(g0 _ (by assumption)).1 | exact(g0 _ (by assumption)).2 | exact(g1 _ (by assumption)).1 | exact(g1 _ (by assumption)).2 | exact Ud (by grind) (K7 (g0 _ (by assumption))) | exact Ud (by grind) (K7 (g1 _ (by assumption))) | exact lv)
theorem Cr{N:Nat}[Ig N]{x0:List Qa}(hx:x0.length≤1000000000000):∀(n:Nat) (x1 x2:Int),0≤x1→x1≤x2→x2≤x0.length→x2 - x1<n→W (U6 N n x0 x1 x2) fun r=>(r.length:Int)=x2 - x1∧Qu (fun i:Int=>0≤i∧i<(x0.length:Int)) r
 | 0,x1,x2,h0,h1,h2,h3=>by omega
 | n+1,x1,x2,h0,h1,h2,h3=>by
  unfold U6
  have e1:IntKind.wrap .i64 (x2 - x1)=x2 - x1:=Q8 (by omega) (by omega)
  have e2:IntKind.wrap .i64 (Int.tdiv (x2 - x1) 2)=(x2 - x1) / 2:=by rw[QN (by omega),Q8 (by omega) (by omega)]
  have e3:IntKind.wrap .i64 (x1+(x2 - x1) / 2)=x1+(x2 - x1) / 2:=Q8 (by omega) (by omega)
  rw[e1,e2,e3]
  by_cases hc:x2 - x1<2
  ·rw[if_pos (by simpa using hc)]
   obtain⟨r,e,hr⟩:=(Qkj (N:=N) (x2:=x2) (L:=x0.length) (s:=(x1,[]))).spec _ ⟨⟨⟨h0,h1,h2,by omega⟩,rfl⟩,fun r h=>h⟩
   rw[e]; exact⟨r,rfl,hr⟩
  ·rw[if_neg (by simpa using hc)]
   obtain⟨r6,f6,k6⟩:=Cr (N:=N) hx n x1 (x1+(x2 - x1) / 2) h0 (by omega) (by omega) (by omega)
   obtain⟨r7,f7,k7⟩:=Cr (N:=N) hx n (x1+(x2 - x1) / 2) x2 (by omega) (by omega) (by omega) (by omega)
   rw[f6]
   show W ((U6 N n x0 (x1+(x2 - x1) / 2) x2).bind _) _
   rw[f7]
   refine wp ?_
   refine⟨⟨by omega,by omega,by omega⟩,⟨by omega,k6.2,k7.2,JT _,Int.natCast_nonneg _,JT _,Int.natCast_nonneg _,rfl,Ye⟩,fun r h=>⟨by omega,h.2⟩⟩
@[reducible,instance] def Jg3{N:Nat}[hN:Ig N]{x0:List Qa}{x1 x2:Int}:WP (Qi3 N x0 x1 x2) (fun R=>(x0.length≤1000000000000∧0≤x1∧x1≤x2∧x2≤x0.length)∧∀r:List Int,((r.length:Int)=x2 - x1∧Qu (fun i:Int=>0≤i∧i<(x0.length:Int)) r)→R r):=Qg3 (by
  intro h
  have:=hN.le
  exact Cr (N:=N) h.1 N x1 x2 h.2.1 h.2.2.1 h.2.2.2 (by omega))
@[reducible,instance] def Q9y{x0 x4}{s}:=upL (N:=N) (s:=s) (Qbs.eq_def N x0 x4) (fun t=>t) x0.2.2.2.2.2.1.length (fun t=>x0.2.2.2.2.2.1.length≤1000000000000) (fun r:((Unit)⊕(Bool))=>True)
@[reducible,instance] def Jg4{x0 x1 x2 x3 x4 x5 x6}:=mkW (T5.eq_1 N x0 x1 x2 x3 x4 x5 x6) (x0.2.2.2.2.2.1.length≤1000000000000) (fun r=>True)
@[reducible,instance] def Jrr{x0}:=mkW (Qhm.eq_1 N x0) (True) (fun r=>True)
@[reducible,instance] def Jf5{r2 x0 x1 x2 x3 x4 x5 x6}{s}:=upL (N:=N) (s:=s) (Qfv.eq_def N r2 x0 x1 x2 x3 x4 x5 x6) (fun t=>t.2.1) r2.length (fun t=>r2.length≤1000000000000∧Qu (fun i:Int=>0≤i∧i<(x0.length:Int)) r2∧sz x0≤1000000000000∧t.2.2.1.length=x0.length∧sz t.2.2.1≤1000000000000∧t.2.2.2.length≤t.2.1∧x0.length≤1000000000000) (fun r:((Int×(List Qa)×(List Qi)))=>r.2.1.length=x0.length∧sz r.2.1≤1000000000000∧r.2.2.length≤r2.length) (step:=by
  intro s h h0 h1 h2 hw
  have g0:=(fun i hi=>h.2.1.all i hi:∀i∈r2,0≤i∧i<(x0.length:Int))
  try simp only[sS,reduceCtorEq]at *
  repeat' (first | intro _ | apply And.intro)
  all_goals first | assumption | omega | exact(g0 _ (by assumption)).1 | exact(g0 _ (by assumption)).2 | exact Int.lt_of_lt_of_le (g0 _ (by assumption)).2 (by omega) | exact lv)
@[reducible,instance] def Jmf{x0 x1 x2 x3 x4 x5 x6 x7}:=mkW (Lk.eq_1 N x0 x1 x2 x3 x4 x5 x6 x7) (sz x0≤1000000000000) (fun r=>r.2.1.length=x0.length∧sz r.2.1≤1000000000000∧r.2.2.length≤x0.length)
@[reducible,instance] def Jf6:=mkW (Pk.eq_1 N) (True) (fun r=>sz r≤0)
@[reducible,instance] def Jg5{x0 x1}:=mkW (Tq.eq_1 N x0 x1) (sz x0≤9223372036854775807) (fun r=>r.1.length=x0.length)
@[reducible,instance] def Q5u{x1 x2}{s}:=upL (N:=N) (s:=s) (Pl.eq_def N x1 x2) (fun t=>t.1) x1.length (fun t=>x1.length≤40∧t.2.length≤t.1) (fun r:(((Unit)⊕(Unit))×(List Ql))=>r.2.length≤40)
@[reducible,instance] def Jc5{x1 x2}:=mkW (Mg.eq_1 N x1 x2) (x1.length≤40) (fun r=>r.length≤40)
@[reducible,instance] def Qxo{x0 x1}{s}:=upL (N:=N) (s:=s) (Db.eq_def N x0 x1) (fun t=>t) x0.length (fun t=>sz x0≤9223372036854775807) (fun r:((Int))=>0≤r∧r≤x0.length)
@[reducible,instance] def Q5v{x0 x1}:=mkW (Wt.eq_1 N x0 x1) (sz x0≤1099511627776) (fun r=>r.length≤x0.length+1)
@[reducible,instance] def Qua{x0 x1}{s}:=upL (N:=N) (s:=s) (Ff.eq_def N x0 x1) (fun t=>t) x0.length (fun t=>sz x0≤9223372036854775807) (fun r:((Int))=>0≤r∧r≤x0.length)
@[reducible,instance] def Qxp{x0 x1}:=mkW (Ke.eq_1 N x0 x1) (sz x0≤1099511627776) (fun r=>r.length≤x0.length+1)
@[reducible,instance] def Q5w{x0 x1}{s}:=upL (N:=N) (s:=s) (Pm.eq_def N x0 x1) (fun t=>t.1) x0.length (fun t=>sz x0≤1099511627776∧t.2.length≤t.1∧sz t.2≤(sz x0)) (fun r:(((List Str)))=>sz r≤(sz x0))
@[reducible,instance] def Jc6{x0 x1}:=mkW (Fu.eq_1 N x0 x1) (sz x0≤1099511627776) (fun r=>sz r≤(sz x0))
@[reducible,instance] def Qvc{x1 x2 c7 cd ck cm d5 d6 d7}:=mkW (Wu.eq_1 N x1 x2 c7 cd ck cm d5 d6 d7) (sz x1≤1099511627) (fun r=>sz r.1≤sz x1+1∧r.2.length≤cm.length+1)
@[reducible,instance] def Qqf{x1 cd}{s}:=upL (N:=N) (s:=s) (Hv.eq_def N x1 cd) (fun t=>t.1) ((((Qh (k:=(.int .i64)) x1.2.2.2.1 cd).getD (0,0,0,([]:Str),([]:List Str),([]:List Str),false,false)).2.2.2.2.1)).length (fun t=>sz cd≤1099511627∧t.2.length≤s.2.length∧cd.length≤1099511627) (fun r:(((List (Str×Int))))=>r.length≤s.2.length) (fun t h=>by have:=Qz3 cd x1.2.2.2.1; omega)
@[reducible,instance] def Quo{x1 c7 cd ck cm d5 d6 d7}:=mkW (Xw.eq_1 N x1 c7 cd ck cm d5 d6 d7) (sz c7≤1099511627∧sz cd≤1099511627∧ck.length≤1099511627∧cm.length≤1099511627∧d5.length≤1099511627∧d6.length≤1099511627∧d7.length≤1099511627) (fun r=>sz r.1≤sz c7+1∧sz r.2.1≤sz cd+1∧r.2.2.1.length≤ck.length+1∧r.2.2.2.1.length≤cm.length+1∧r.2.2.2.2.1.length≤d5.length+1∧r.2.2.2.2.2.1.length≤d6.length+1∧r.2.2.2.2.2.2.length≤d7.length+1) (k:=by
  intro h
  have g0:=Qz3 cd; have g1:=Jco c7
  try simp only[sS,reduceCtorEq]at *
  repeat' (first | intro _ | apply And.intro)
  all_goals first | (refine QW (Ip _ _ _) (XO.2 ⟨?_,?_⟩)<;>(try simp only[sz1,mx1])<;>grind) | exact lv)
@[reducible,instance] def Qph{d7 cd}{s}:=upL (N:=N) (s:=s) (G5.eq_def N d7 cd) (fun t=>t.1) d7.length (fun t=>d7.length≤1099511627∧sz cd≤1099511627∧(sz t.2.1:Int)≤t.1∧t.2.2.length≤t.1∧sz t.2.2≤t.1+sz cd∧cd.length≤1099511627) (fun r:(((List (Int×(List Int)))×(List Js)))=>sz r.1≤d7.length∧sz r.2≤d7.length+sz cd) (step:=by
  intro s h h0 h1 h2 hw
  have g0:=Qz3 cd; have g1:=Q5c s.2.1
  try simp only[sS,reduceCtorEq]at *
  repeat' (first | intro _ | apply And.intro)
  all_goals first | (refine Jn7 ?_ ?_<;>(try simp only[sz1,mx1,List.length_append,List.length_cons,JY])<;>grind) | exact lv)
@[reducible,instance] def Qpi{d6 c7 v20}{s}:=upL (N:=N) (s:=s) (G6.eq_def N d6 c7 v20) (fun t=>t.1) d6.length (fun t=>d6.length≤1099511627∧sz c7≤1099511627∧sz v20≤1099511627∧t.2.1.length≤t.1∧sz t.2.1≤3298534881∧sz t.2.2≤10995116270∧c7.length≤1099511627∧v20.length≤1099511627) (fun r:(((List Q6)×(List Js)))=>sz r.1≤3298534881∧sz r.2≤10995116270) (step:=by
  intro s h h0 h1 h2 hw
  have g0:=Jco c7; have g1:=Q5c v20
  try simp only[sS,reduceCtorEq]at *
  repeat' (first | intro _ | apply And.intro)
  all_goals first | exact lv)
@[reducible,instance] def Qub{c7 cd ck cm d5 d6 d7}:=mkW (Xb.eq_1 N c7 cd ck cm d5 d6 d7) (sz c7≤1099511627∧sz cd≤1099511627∧ck.length≤1099511627∧cm.length≤1099511627∧d5.length≤1099511627∧d6.length≤1099511627∧d7.length≤1099511627) (fun r=>sz r.1≤10995116270∧sz r.2≤10995116270)
@[reducible,instance] def Q7d{es:List Ql}{s:(List (Int×Q6))×(List (Int×Js))×(List (Int×Bool))×(List (Str×Int))×(List (Int×Int))×(List Int)×(List Int)}:=Js5 (f:=G7 N) (es:=es) (fun n s=>es.length≤40∧(sz s.1:Int)≤n∧(sz s.2.1:Int)≤n∧(s.2.2.1.length:Int)≤n∧(s.2.2.2.1.length:Int)≤n∧(s.2.2.2.2.1.length:Int)≤n∧(s.2.2.2.2.2.1.length:Int)≤n∧(s.2.2.2.2.2.2.length:Int)≤n) (by
  intro n s e he h0 hn h
  show W (G7 N s e) _
  rw[G7.eq_1]
  refine wp ?_
  try simp only[sS,reduceCtorEq]at *
  repeat' (first | intro _ | apply And.intro)
  all_goals first | assumption | omega) (s:=s)
@[reducible,instance] def Jf7{x0 x1}:=mkW (Ca.eq_1 N x0 x1) (x0.length≤40) (fun r=>sz r.1≤10995116270∧sz r.2≤10995116270)
@[reducible,instance] def Jc7{r2 x1}{s}:=upL (N:=N) (s:=s) (Qd5.eq_def N r2 x1) (fun t=>t.1) r2.length (fun t=>sz r2≤10995116270∧r2.length≤10995116270) (fun r:((Int×Int×Int×Str×Bool×Bool)⊕(Bool×Js))=>∀t,r=.inr t→sz t.2≤10995116270)
@[reducible,instance] def Jln{x0 x1 x2}:=mkW (Qc2.eq_1 N x0 x1 x2) (x0.length≤40) (fun r=>sz r.1≤10995116270)
@[reducible,instance] def Q1g{r1 x1}{s}:=upL (N:=N) (s:=s) (Nj.eq_def N r1 x1) (fun t=>t.1) r1.length (fun t=>sz r1≤10995116270∧r1.length≤10995116270) (fun r:((Int×Int×Int×Bool×Bool)⊕(Bool×Q6))=>∀t,r=.inr t→sz t.2≤10995116270)
@[reducible,instance] def Q9z{x0 x1 x2}:=mkW (Xz.eq_1 N x0 x1 x2) (x0.length≤40) (fun r=>sz r.1≤10995116270)
@[reducible,instance] def Qz8{x0}:=mkW (Hw.eq_1 N x0) (x0.length≤4096) (fun r=>r=x0)
@[reducible,instance] def Qvd{x0}:=mkW (Wv.eq_1 N x0) (x0.length≤4096) (fun r=>r=x0)
@[reducible,instance] def Qve{x0}:=mkW (Ww.eq_1 N x0) (x0.length≤4096) (fun r=>r=x0)
theorem Qej{N:Nat}[Ig N]:∀(n:Nat) (e:Jb),dpt e≤n→sz e≤4096→W (Xc N n e) fun r=>r=e
 | 0,e,h,hs=>by cases e with | mk a ks=>rw[dpt]at h; omega
 | n+1,e,h,hs=>by
  unfold Xc
  have hk:=Jk3 (e:=e)
  have hlen:=Ua (l:=e.ks)
  have ih:∀x:Jb,WP (Xc N n x) (fun R=>(x∈e.ks∧sz x≤4096)∧∀r:Jb,r=x→R r):=fun x=>Qg3 fun hx=>Qej n x (by have:=Jk5 hx.1; omega) hx.2
  have loop:=fun s:Int×List Jb=>upL (N:=N) (s:=s) (Qfn.eq_def N (Xc N n) e) (fun s=>s.1) e.ks.length (fun s=>e.ks.length≤4096∧s.2=e.ks.take s.1.toNat) (fun r:List Jb=>r=e.ks) (step:=by
   intro s h h0 h1 h2 hw
   try simp only[sS,reduceCtorEq]at *
   repeat' (first | intro _ | apply And.intro)
   all_goals first | assumption | omega | grind [Ih,Rm])
  refine wp ?_
  simp only[forall_eq]
  refine⟨⟨⟨by omega,by simp⟩,by omega,by omega⟩,?_⟩
  cases e with
  | mk a ks=>rfl
@[reducible,instance] def Jmg{N:Nat}[hN:Ig N]{x0:Jb}:WP (Qo3 N x0) (fun R=>(sz x0≤4096∧dpt x0≤4096)∧∀r:Jb,r=x0→R r):=Qg3 (by
  intro h
  have:=hN.le
  exact Qej N x0 (by omega) h.1)
@[reducible,instance] def Jc8{x0}{s}:=upL (N:=N) (s:=s) (Qd6.eq_def N x0) (fun t=>t.1) x0.2.2.2.1.length (fun t=>sz x0≤4096∧t.2.1=x0.1∧t.2.2.1=x0.2.1∧t.2.2.2.1=x0.2.2.1∧t.2.2.2.2=x0.2.2.2.1.take t.1.toNat) (fun r:((Str×Int×Bool×(List Q4)))=>r.1=x0.1∧r.2.1=x0.2.1∧r.2.2.1=x0.2.2.1∧r.2.2.2=x0.2.2.2.1) (step:=by
  intro s h h0 h1 h2 hw
  try simp only[sS,reduceCtorEq]at *
  repeat' (first | intro _ | apply And.intro)
  all_goals first | grind [Ih,Rm,Bj.deep] | exact lv)
@[reducible,instance] def Jc9{x0}{s}:=upL (N:=N) (s:=s) (Qd7.eq_def N x0) (fun t=>t.1) x0.2.2.2.2.1.length (fun t=>sz x0≤4096∧t.2.1=x0.1∧t.2.2.1=x0.2.1∧t.2.2.2.1=x0.2.2.1∧t.2.2.2.2.1=x0.2.2.2.1∧t.2.2.2.2.2=x0.2.2.2.2.1.take t.1.toNat) (fun r:((Str×Int×Bool×(List Q4)×(List Jg)))=>r.1=x0.1∧r.2.1=x0.2.1∧r.2.2.1=x0.2.2.1∧r.2.2.2.1=x0.2.2.2.1∧r.2.2.2.2=x0.2.2.2.2.1) (step:=by
  intro s h h0 h1 h2 hw
  try simp only[sS,reduceCtorEq]at *
  repeat' (first | intro _ | apply And.intro)
  all_goals first | grind [Ih,Rm,Bj.deep] | exact lv)
@[reducible,instance] def Jda{x0}{s}:=upL (N:=N) (s:=s) (Qd8.eq_def N x0) (fun t=>t.1) x0.2.2.2.2.2.1.length (fun t=>sz x0≤4096∧t.2.1=x0.1∧t.2.2.1=x0.2.1∧t.2.2.2.1=x0.2.2.1∧t.2.2.2.2.1=x0.2.2.2.1∧t.2.2.2.2.2.1=x0.2.2.2.2.1∧t.2.2.2.2.2.2=x0.2.2.2.2.2.1.take t.1.toNat) (fun r:((Str×Int×Bool×(List Q4)×(List Jg)×(List Y7)))=>r.1=x0.1∧r.2.1=x0.2.1∧r.2.2.1=x0.2.2.1∧r.2.2.2.1=x0.2.2.2.1∧r.2.2.2.2.1=x0.2.2.2.2.1∧r.2.2.2.2.2=x0.2.2.2.2.2.1) (step:=by
  intro s h h0 h1 h2 hw
  try simp only[sS,reduceCtorEq]at *
  repeat' (first | intro _ | apply And.intro)
  all_goals first | grind [Ih,Rm,Bj.deep] | exact lv)
@[reducible,instance] def Jdb{x0}{s}:=upL (N:=N) (s:=s) (Qd9.eq_def N x0) (fun t=>t.1) x0.2.2.2.2.2.2.length (fun t=>sz x0≤4096∧Bj x0∧t.2.1=x0.1∧t.2.2.1=x0.2.1∧t.2.2.2.1=x0.2.2.1∧t.2.2.2.2.1=x0.2.2.2.1∧t.2.2.2.2.2.1=x0.2.2.2.2.1∧t.2.2.2.2.2.2.1=x0.2.2.2.2.2.1∧t.2.2.2.2.2.2.2=x0.2.2.2.2.2.2.take t.1.toNat) (fun r:((Str×Int×Bool×(List Q4)×(List Jg)×(List Y7)×(List Ji)))=>r.1=x0.1∧r.2.1=x0.2.1∧r.2.2.1=x0.2.2.1∧r.2.2.2.1=x0.2.2.2.1∧r.2.2.2.2.1=x0.2.2.2.2.1∧r.2.2.2.2.2.1=x0.2.2.2.2.2.1∧r.2.2.2.2.2.2=x0.2.2.2.2.2.2) (step:=by
  intro s h h0 h1 h2 hw
  try simp only[sS,reduceCtorEq]at *
  repeat' (first | intro _ | apply And.intro)
  all_goals first | grind [Ih,Rm,Bj.deep] | exact lv)
@[reducible,instance] def Jlo{x0}:=mkW (Qc3.eq_1 N x0) (sz x0≤4096∧Bj x0) (fun r=>r=x0)
@[reducible,instance] def Jlp{x0 x1 x2}{s}:=upL (N:=N) (s:=s) (Qlp.eq_def N x0 x1 x2) (fun t=>t.2) x0.length (fun t=>x0.length≤4096 ∧ -1≤t.1∧t.1<x0.length) (fun r:((Int)) => -1≤r∧r<x0.length)
@[reducible,instance] def Jrs{x0 x1 x2}:=mkW (Qnm.eq_1 N x0 x1 x2) (sz x0≤4096∧Sh.sh x0∧Qu Bj x0) (fun r=>sz r≤4096∧Sh.sh r∧Qu (fun d=>dpt d.2.1≤4096) r.2.2.2.2.2.2.2) (k:=by
  intro h
  try simp only[sS,reduceCtorEq]at *
  repeat' (first | intro _ | apply And.intro)
  all_goals first | exact⟨fun _ h=>absurd h JB⟩ | exact⟨fun d hd=>absurd hd JB⟩ | exact Qu.all (And.right (And.right (by assumption))) _ (by assumption) | exact⟨Bj.deep (Qu.all (And.right (And.right (by assumption))) _ (by assumption))⟩ | exact lv)
@[reducible,instance] def Jg6{x0}{s}:=upL (N:=N) (s:=s) (Qi0.eq_def N x0) (fun t=>t) x0.length (fun t=>Sh.sh x0) (fun r:((Unit)⊕(Bool))=>True) (fun _ h=>Qg5 (by grind))
@[reducible,instance] def Jod{x0}:=mkW (Qjv.eq_1 N x0) (Sh.sh x0) (fun r=>True)
@[reducible,instance] def Jg7{x0 ce}:=mkW (Tr.eq_1 N x0 ce) (True) (fun r=>True)
@[reducible,instance] def Qn6{x0 ce}{s}:=upL (N:=N) (s:=s) (Ga.eq_def N x0 ce) (fun t=>t) x0.length (fun t=>x0.length≤9223372036854775807) (fun r:((Unit)⊕(Int))=>∀t,r=.inr t→0≤t∧t<x0.length)
@[reducible,instance] def Qq0{x0 ce}:=mkW (Km.eq_1 N x0 ce) (x0.length≤9223372036854775807) (fun r => -1≤r∧r<x0.length)
@[reducible,instance] def Qn7{x0 ce}:=mkW (U3.eq_1 N x0 ce) (x0.length≤9223372036854775807) (fun r=>True)
@[reducible,instance] def Jlq{x0}:=mkW (Qc1.eq_1 N x0) (True) (fun r=>True)
@[reducible,instance] def Jdc{x0}{s}:=upL (N:=N) (s:=s) (Qd3.eq_def N x0) (fun t=>t) x0.length (fun t=>Sh.sh x0) (fun r:((Unit)⊕(Bool))=>True) (fun _ h=>Qg5 (by grind))
@[reducible,instance] def Jlr{x0}:=mkW (Ej.eq_1 N x0) (Sh.sh x0) (fun r=>True)
@[reducible,instance] def Jf8{x4}{s}:=upL (N:=N) (s:=s) (Qfo.eq_def N x4) (fun t=>t.1) x4.2.length (fun t=>x4.2.length≤9223372036854775807∧Sh.sh x4) (fun r:(((List (Str×Str)))⊕(Int))=>∀c,r=.inr c→c≠0)
@[reducible,instance] def Jf9{x0}{s}:=upL (N:=N) (s:=s) (Qfp.eq_def N x0) (fun t=>t.1) x0.length (fun t=>sz x0≤9223372036854775807∧Sh.sh x0∧x0.length≤9223372036854775807) (fun r:(((List (Str×Str)))⊕(Int))=>∀c,r=.inr c→c≠0)
@[reducible,instance] def Jmh{x0}:=mkW (Qfq.eq_1 N x0) (sz x0≤9223372036854775807∧Sh.sh x0) (fun r=>∀c,r=.inr c→c≠0)
@[reducible,instance] def Q90{x1 ce}{s}:=mkL (N:=N) (s:=s) (Qbh.eq_def N x1 ce) (fun t=>t.toNat) (fun t=>List.length x1≤9223372036854775807∧t≤List.length x1) (fun r:((Unit)⊕(Str×Bool))=>True)
@[reducible,instance] def Jg8{x1 x2 ce}:=mkW (Tt.eq_1 N x1 x2 ce) (List.length x1≤9223372036854775807∧x2≤List.length x1) (fun r=>True)
@[reducible,instance] def Joe{x0 x1}:=mkW (Qjw.eq_1 N x0 x1) (sz x0≤9223372036854775807∧Sh.sh x0∧Sh.sh x1∧List.length x1≤9223372036854775807) (fun r=>True)
@[reducible,instance] def Jg9{x0}{s}:=upL (N:=N) (s:=s) (Qi1.eq_def N x0) (fun t=>t) x0.length (fun t=>Sh.sh x0) (fun r:((Unit)⊕(Bool))=>True) (fun _ h=>Qg5 (by grind))
@[reducible,instance] def Jof{x0}:=mkW (Qjx.eq_1 N x0) (Sh.sh x0) (fun r=>True)
@[reducible,instance] def Jha{x0 ce}:=mkW (Tu.eq_1 N x0 ce) (True) (fun r=>True)
@[reducible,instance] def Qn8{x0 ce}{s}:=upL (N:=N) (s:=s) (Gb.eq_def N x0 ce) (fun t=>t) x0.length (fun t=>x0.length≤9223372036854775807) (fun r:((Unit)⊕(Int))=>True)
@[reducible,instance] def Qq1{x0 ce}:=mkW (Kn.eq_1 N x0 ce) (x0.length≤9223372036854775807) (fun r=>True)
@[reducible,instance] def Qn9{x0 ce}:=mkW (U4.eq_1 N x0 ce) (x0.length≤9223372036854775807) (fun r=>True)
@[reducible,instance] def Jga{x0}{s}:=upL (N:=N) (s:=s) (Qfr.eq_def N x0) (fun t=>t) x0.length (fun t=>sz x0≤9223372036854775807) (fun r:((Unit)⊕(Int))=>True)
@[reducible,instance] def Jmi{x0}:=mkW (Qfs.eq_1 N x0) (sz x0≤9223372036854775807) (fun r=>True)
@[reducible,instance] def Jgb{x0}{s}:=upL (N:=N) (s:=s) (Qft.eq_def N x0) (fun t=>t) x0.length (fun t=>sz x0≤4096∧x0.length≤64∧Sh.sh x0∧x0.length≤4096) (fun r:((Unit)⊕(Int))=>∀c,r=.inr c→c≠0)
@[reducible,instance] def Jmj{x0}:=mkW (Qfu.eq_1 N x0) (sz x0≤4096∧Sh.sh x0) (fun r=>r=0→1≤x0.length∧x0.length≤64)
@[reducible,instance] def Q1h{x0 x1}{s}:=upL (N:=N) (s:=s) (Nd.eq_def N x0 x1) (fun t=>t) x0.length (fun t=>x0.length≤9223372036854775807) (fun r:((Unit)⊕(Int))=>True)
@[reducible,instance] def Q91{x0 x1}:=mkW (D3.eq_1 N x0 x1) (x0.length≤9223372036854775807) (fun r=>True)
@[reducible,instance] def Q1i{x0 x1}:=mkW (E5.eq_1 N x0 x1) (x0.length≤9223372036854775807) (fun r=>True)
@[reducible,instance] def Q92{x0}:=mkW (D4.eq_1 N x0) (True) (fun r=>0≤x0→x0<146097→0≤r) (k:=by
  intro h
  try simp only[sS,reduceCtorEq]at *
  repeat' (first | intro _ | apply And.intro)
  all_goals first | (rw[Q8 (by omega) (by omega),JE (by omega)]; omega) | exact lv)
@[reducible,instance] def Jrt{x0 x1}:=mkW (Qnn.eq_1 N x0 x1) (x0.length≤9223372036854775807∧0≤x1∧x1<146097) (fun r=>True)
@[reducible,instance] def Jls{x0 ce c7}:=mkW (Qc4.eq_1 N x0 ce c7) (True) (fun r=>True)
@[reducible,instance] def Qoa{x0 ce c7}{s}:=upL (N:=N) (s:=s) (Gc.eq_def N x0 ce c7) (fun t=>t) x0.length (fun t=>x0.length≤9223372036854775807) (fun r:((Unit)⊕(Int))=>True)
@[reducible,instance] def Qq2{x0 ce c7}:=mkW (Ko.eq_1 N x0 ce c7) (x0.length≤9223372036854775807) (fun r=>True)
@[reducible,instance] def Qob{x0 ce c7}:=mkW (U5.eq_1 N x0 ce c7) (x0.length≤9223372036854775807) (fun r=>True)
@[reducible,instance] def Jhb{x0 x1 x2}{s}:=upL (N:=N) (s:=s) (Qi2.eq_def N x0 x1 x2) (fun t=>t) x0.length (fun t=>sz x0≤4096∧x0.length≤4096) (fun r:((Unit)⊕(Str))=>True)
@[reducible,instance] def Jog{x0 x1 x2}:=mkW (Qjy.eq_1 N x0 x1 x2) (sz x0≤4096∧1≤x0.length) (fun r=>True) (k:=by
  intro h
  have g0:=(Ua (l:=x0))
  try simp only[sS,reduceCtorEq]at *
  repeat' (first | intro _ | apply And.intro)
  all_goals first | exact lv)
@[reducible,instance] def Js9{x0 x1 x2}:=mkW (Qte.eq_1 N x0 x1 x2) (sz x0≤4096∧Sh.sh x0∧x1.length≤4096) (fun r=>True) (k:=by
  intro h
  have g0:=(show 0≤x2∧x2≤12622780799→IntKind.wrap .i64 (Int.tdiv x2 86400)=x2 / 86400 from fun a=>by rw[QN (by omega),Q8 (by omega) (by omega)])
  try simp only[sS,reduceCtorEq]at *
  repeat' (first | intro _ | apply And.intro)
  all_goals first | exact lv)
@[reducible,instance] def Jgc{x0 ce c7 cd}:=mkW (Pn.eq_1 N x0 ce c7 cd) (True) (fun r=>True)
@[reducible,instance] def Jdd{x0 x1 x2 x3}{s}:=upL (N:=N) (s:=s) (Qea.eq_def N x0 x1 x2 x3) (fun t=>t.1) x0.2.2.2.2.2.1.length (fun t=>sz x0≤4096∧x0.2.2.2.2.2.1.length≤4096) (fun r:((Int×Str×Str×Int)⊕(Bool×Int×Str×Str×Int×(List Qo)))=>∀t,r=.inr t→t.2.2.2.2.2.length≤4096)
@[reducible,instance] def Jlt{x0 x1 x2 x3}:=mkW (Qc5.eq_1 N x0 x1 x2 x3) (sz x0≤4096) (fun r=>r.2.2.2.2.2.length≤4096)
@[reducible,instance] def Q7e{x1 x0}{s}:=Qma (N:=N) (s:=s) (Sy.eq_def N x1 x0) x1 (x1.length≤9223372036854775807) (fun y=>0≤y∧y≤x0) (∀y∈x1,0≤y∧y≤x0) (fun u=>u=false)
@[reducible,instance] def Jgd{x0 x1}:=mkW (Cd.eq_1 N x0 x1) (x1.length≤9223372036854775807) (fun r=>r=true→Q5e x0 x1) (k:=by
  intro h
  try simp only[sS,reduceCtorEq]at *
  repeat' (first | intro _ | apply And.intro)
  all_goals first | exact Q5f (by assumption) | exact lv)
@[reducible,instance] def Q93{x0}{s}:=upL (N:=N) (s:=s) (Qbt.eq_def N x0) (fun t=>t.2) x0.length (fun t=>x0.length≤64∧Nu Qn4 x0 t.2) (fun r:((Unit)⊕(Int))=>(∀u,r=.inl u→∀y∈x0,Qn4 y)∧∀u,r=.inr u→u≠0) (step:=by
  intro s h h0 h1 h2 hw
  try simp only[sS,reduceCtorEq]at *
  repeat' (first | intro _ | apply And.intro)
  all_goals first | exact V4 | (rw[hw (by assumption)]; exact Rk h0 h.2 (by assumption) (Jfs (by grind) (by grind) (by grind))) | exact Qho h.2 (by omega) _ (by assumption) | exact lv)
@[reducible,instance] def Jhc{x0}:=mkW (T6.eq_1 N x0) (x0.length≤9223372036854775807) (fun r=>r=0→Qu Qn4 x0∧x0.length≤64) (k:=by
  intro h
  try simp only[sS,reduceCtorEq]at *
  repeat' (first | intro _ | apply And.intro)
  all_goals first | exact⟨by assumption⟩ | exact lv)
@[reducible,instance] def Qz9{r1}{s}:=upL (N:=N) (s:=s) (Lh.eq_def N r1) (fun t=>t.1) r1.length (fun t=>sz r1≤1000000000000∧t.2=r1∧r1.length≤1000000000000) (fun r:(((List Qa)))=>r=r1) (step:=by
  intro s h h0 h1 h2 hw
  try simp only[sS,reduceCtorEq]at *
  repeat' (first | intro _ | apply And.intro)
  all_goals first | ((repeat cases ‹_∧_›); subst_vars; exact Qdu (by assumption) (by assumption)) | grind [Qdu] | exact lv)
@[reducible,instance] def Q7f{x0}:=mkW (G3.eq_1 N x0) (sz x0.1≤1000000000000∧x0.2.1.length≤1000000000000∧x0.2.2.length≤1000000000000) (fun r=>r=x0)
@[reducible,instance] def Q1j{r1}{s}:=upL (N:=N) (s:=s) (Nb.eq_def N r1) (fun t=>t.1) r1.length (fun t=>sz r1≤1000000000000∧t.2=r1∧r1.length≤1000000000000) (fun r:(((List Qa)))=>r=r1) (step:=by
  intro s h h0 h1 h2 hw
  try simp only[sS,reduceCtorEq]at *
  repeat' (first | intro _ | apply And.intro)
  all_goals first | ((repeat cases ‹_∧_›); subst_vars; exact Qdu (by assumption) (by assumption)) | grind [Qdu] | exact lv)
@[reducible,instance] def Q94{x0}:=mkW (Ei.eq_1 N x0) (sz x0.1≤1000000000000∧x0.2.1.length≤1000000000000∧x0.2.2.length≤1000000000000) (fun r=>r=x0)
@[reducible,instance] def Q1k{x0}:=mkW (Xk.eq_1 N x0) (x0.2.2.2.2.2.2.1.length≤1000000000000∧x0.2.2.2.2.1.2.2.2.2.2.2.1.2.2.2.2.length≤4096) (fun r=>r=(x0.1,x0.2.1,x0.2.2.1,x0.2.2.2.1,x0.2.2.2.2.1.1,x0.2.2.2.2.1.2.1,x0.2.2.2.2.1.2.2.1,x0.2.2.2.2.1.2.2.2.1,x0.2.2.2.2.1.2.2.2.2.1,x0.2.2.2.2.1.2.2.2.2.2.1,x0.2.2.2.2.1.2.2.2.2.2.2.1.1,x0.2.2.2.2.1.2.2.2.2.2.2.1.2.1,x0.2.2.2.2.1.2.2.2.2.2.2.1.2.2.1,x0.2.2.2.2.1.2.2.2.2.2.2.1.2.2.2.1,x0.2.2.2.2.1.2.2.2.2.2.2.2.1,x0.2.2.2.2.1.2.2.2.2.2.2.2.2,x0.2.2.2.2.2.1,x0.2.2.2.2.2.2.2.1,x0.2.2.2.2.2.2.2.2.1,x0.2.2.2.2.2.2.2.2.2.1,x0.2.2.2.2.2.2.2.2.2.2,x0.2.2.2.2.1.2.2.2.2.2.2.1.2.2.2.2,x0.2.2.2.2.2.2.1))
@[reducible,instance] def Jde{x0 x1 x2 x3}:=mkW (U2.eq_1 N x0 x1 x2 x3) (sz x0.1≤1000000000000∧x0.2.1.length≤1000000000000∧x0.2.2.length≤1000000000000∧x1.2.2.2.2.2.2.1.length≤1000000000000∧x1.2.2.2.2.1.2.2.2.2.2.2.1.2.2.2.2.length≤4096) (fun r=>r=(x1.1,x1.2.1,x1.2.2.1,x1.2.2.2.1,x1.2.2.2.2.1.1,x1.2.2.2.2.1.2.1,x1.2.2.2.2.1.2.2.1,x1.2.2.2.2.1.2.2.2.1,x1.2.2.2.2.1.2.2.2.2.1,x1.2.2.2.2.1.2.2.2.2.2.1,x1.2.2.2.2.1.2.2.2.2.2.2.1.1,x1.2.2.2.2.1.2.2.2.2.2.2.1.2.1,x1.2.2.2.2.1.2.2.2.2.2.2.1.2.2.1,x1.2.2.2.2.1.2.2.2.2.2.2.1.2.2.2.1,x1.2.2.2.2.1.2.2.2.2.2.2.2.1,x1.2.2.2.2.1.2.2.2.2.2.2.2.2,x1.2.2.2.2.2.1,x1.2.2.2.2.2.2.2.1,x1.2.2.2.2.2.2.2.2.1,x1.2.2.2.2.2.2.2.2.2.1,x1.2.2.2.2.2.2.2.2.2.2,(x2.1,x2.2.1,0,0,x3),x0.1,x0.2.1,x0.2.2,x1.2.2.2.2.1.2.2.2.2.2.2.1.2.2.2.2,x1.2.2.2.2.2.2.1))
@[reducible,instance] def Jhd{x0 x1}:=mkW (Gm.eq_1 N x0 x1) (sz x0.1≤1000000000000∧x0.2.1.length≤1000000000000∧x0.2.2.length≤1000000000000∧x1.2.2.2.2.2.2.1.length≤1000000000000∧x1.2.2.2.2.1.2.2.2.2.2.2.1.2.2.2.2.length≤4096) (fun r=>r=(x1.1,x1.2.1,x1.2.2.1,x1.2.2.2.1,x1.2.2.2.2.1.1,x1.2.2.2.2.1.2.1,x1.2.2.2.2.1.2.2.1,x1.2.2.2.2.1.2.2.2.1,x1.2.2.2.2.1.2.2.2.2.1,x1.2.2.2.2.1.2.2.2.2.2.1,x1.2.2.2.2.1.2.2.2.2.2.2.1.1,x1.2.2.2.2.1.2.2.2.2.2.2.1.2.1,x1.2.2.2.2.1.2.2.2.2.2.2.1.2.2.1,x1.2.2.2.2.1.2.2.2.2.2.2.1.2.2.2.1,x1.2.2.2.2.1.2.2.2.2.2.2.2.1,x1.2.2.2.2.1.2.2.2.2.2.2.2.2,x1.2.2.2.2.2.1,x1.2.2.2.2.2.2.2.1,x1.2.2.2.2.2.2.2.2.1,x1.2.2.2.2.2.2.2.2.2.1,x1.2.2.2.2.2.2.2.2.2.2,x1.2.2.2.2.1.2.2.2.2.2.2.1.2.2.2.2,x1.2.2.2.2.2.2.1,x0.1,x0.2.1,x0.2.2))
@[reducible,instance] def Jlu{x0 x1}:=mkW (K3.eq_1 N x0 x1) (True) (fun r=>r=true→0≤x0∧x0≤x1)
@[reducible,instance] def Q5x{x0 x1}{s}:=upL (N:=N) (s:=s) (Py.eq_def N x0 x1) (fun t=>t.2.2) x0.length (fun t=>x0.length≤64∧Qu Qn4 x0∧0≤t.2.1∧t.2.1≤2199023255552∧x1≤2199023255552) (fun r:((Int)⊕(Int×Bool))=>True) (step:=by
  intro s h h0 h1 h2 hw
  have g0:=(fun y hy=>⟨(h.2.1.all y hy).upto,(h.2.1.all y hy).inc,(h.2.1.all y hy).price⟩:∀y∈x0,(0≤y.1∧y.1≤1099511627776)∧(1≤y.2.1∧y.2.1≤1099511627776)∧(0≤y.2.2∧y.2.2≤1125899906842624)); have g1:=Jk8
  try simp only[sS,reduceCtorEq]at *
  repeat' (first | intro _ | apply And.intro)
  all_goals first | exact Ju4 (by assumption) (g0 _ (by assumption)).2.1 (by assumption) h.2.2.1 (by first | omega | (have k:=(g0 _ (by assumption)).1.2; split<;>omega)) | (have k:=(g0 _ (by assumption)).1.2; split<;>omega) | exact lv)
@[reducible,instance] def Jdf{x0 x1}:=mkW (Mk.eq_1 N x0 x1) (x0.length≤64∧Qu Qn4 x0∧x1≤2199023255552) (fun r=>True)
@[reducible,instance] def Jlv{x0 x1}:=mkW (Qdc.eq_1 N x0 x1) (x0.length≤4096) (fun r=>True)
@[reducible,instance] def Q5y{x0 x1}:=mkW (Wy.eq_1 N x0 x1) (x0.2.2.2.2.2.2.1.2.2.2.2.length≤4096) (fun r=>True)
@[reducible,instance] def Q7g{x0 x1}:=mkW (K4.eq_1 N x0 x1) (x0.2.2.2.2.2.2.1.2.2.2.2.length≤4096) (fun r=>True)
@[reducible,instance] def Q1l{x0 ce c7}:=mkW (E6.eq_1 N x0 ce c7) (ce.2.2.2.2.2.2.1.2.2.2.2.length≤4096) (fun r=>True)
@[reducible,instance] def Q0a{x0 x2}{s}:=mkL (N:=N) (s:=s) (Ll.eq_def N x0 x2) (fun t=>(t.2 - t.1).toNat) (fun t=>x0.2.2.2.2.2.2.1.2.2.2.2.length≤4096∧0≤t.1∧t.1≤t.2∧t.2≤9223372036854775807) (fun r:((Int))=>True) (step:=by
  intro s h
  have g0:=(show 0≤s.1∧s.1<s.2∧s.2≤9223372036854775807→IntKind.wrap .i64 (s.2 - IntKind.wrap .i64 (Int.tdiv (IntKind.wrap .i64 (s.2 - s.1)) 2))=s.2 - (s.2 - s.1) / 2∧IntKind.wrap .i64 (s.2 - (s.2 - s.1) / 2 - 1)=s.2 - (s.2 - s.1) / 2 - 1 from fun a=>by rw[Q8 (n:=s.2 - s.1) (by omega) (by omega),QN (by omega),Q8 (n:=(s.2 - s.1) / 2) (by omega) (by omega),Q8 (by omega) (by omega),Q8 (by omega) (by omega)]; exact⟨rfl,rfl⟩)
  try simp only[sS,reduceCtorEq]at *
  repeat' (first | intro _ | apply And.intro)
  all_goals first | ((have q:=(by assumption:_∧_∧_∧_); have k:=g0 ⟨q.2.1,(by assumption),q.2.2.2⟩; simp only[k.1,k.2]); omega) | exact lv)
@[reducible,instance] def Q7h{x0 x1 x2}:=mkW (Ce.eq_1 N x0 x1 x2) (x0.2.2.2.2.2.2.1.2.2.2.2.length≤4096∧x1≤9223372036854775807) (fun r=>True)
@[reducible,instance] def Jmk{x0}:=mkW (Sx.eq_1 N x0) (True) (fun r=>True)
@[reducible,instance] def Q7i{ce x2}{s}:=upL (N:=N) (s:=s) (S6.eq_def N ce x2) (fun t=>t) ce.length (fun t=>ce.length≤1000000000000) (fun r:((Unit)⊕(Int))=>True)
@[reducible,instance] def Jge{x0 x1_0 x1_2 x2 x3 ce}:=mkW (Pz.eq_1 N x0 x1_0 x1_2 x2 x3 ce) (x0.1.length≤40∧ce.length≤1000000000000) (fun r=>True)
@[reducible,instance] def Jgf[Y0]{x0 x1_0 x1_2 x2 x3 x4 ce}:=mkW (Cf.eq_1 N x0 x1_0 x1_2 x2 x3 x4 ce) (x0.1.length≤40∧Qu (fun m:Ql=>Aft m.1) x0.1∧sz x1_0≤1000000000000∧ce.length≤1000000000000∧x2.2.2.2.2.2.2.1.2.2.2.2.length≤4096) (fun r=>True) (k:=by
  intro h
  have g0:=h.2.1; have g1:=Job
  try simp only[sS,reduceCtorEq]at *
  repeat' (first | intro _ | apply And.intro)
  all_goals first | exact g0 | exact g1 _ | exact lv)
@[reducible,instance] def Joh{x0 x1}:=mkW (Qdd.eq_1 N x0 x1) (x0.2.2.2.2.2.2.1.2.2.2.2.length≤4096) (fun r=>True)
@[reducible,instance] def Jlw{x0 x1 x2}:=mkW (Nx.eq_1 N x0 x1 x2) (x0.2.2.2.2.2.2.1.2.2.2.2.length≤4096) (fun r=>r.2.2.2.2.2.2.2.2.2.2.2.2.2.2.length≤4096)
@[reducible,instance] def Jml{x0 x1}:=mkW (S5.eq_1 N x0 x1) (True) (fun r=>True)
@[reducible,instance] def Jhe{x0 x1 x2}:=mkW (In.eq_1 N x0 x1 x2) (True) (fun r=>True)
@[reducible,instance] def Joi[Y0]{x0 x1 x2 x3 x4 x5}:=mkW (Qjz.eq_1 N x0 x1 x2 x3 x4 x5) (Di x0∧Qu (fun m:Ql=>Aft m.1) x0.1∧Sh.sh x4∧List.length x4≤9223372036854775807) (fun r=>r.2.2.2.2.2.2.2.2.2.2.2.2.2.length≤4096∧(r.2.2.2.2.2.2.2.2.2.2.2.2.1=0→x5<12622780800)) (k:=by
  intro h
  have g0:=h.1.ev; have g1:=h.1.tarL; have g2:=h.1.tarS; have g3:=h.1.tarO; have g4:=h.1.hol; have g5:=h.2.1
  try simp only[sS,reduceCtorEq]at *
  repeat' (first | intro _ | apply And.intro)
  all_goals first | assumption | exact lv)
@[reducible,instance] def Jmm{x0 x1 x2}:=mkW (Qfw.eq_1 N x0 x1 x2) (True) (fun r=>True)
@[reducible,instance] def Jgg{v6 x7}{s}:=upL (N:=N) (s:=s) (Qfx.eq_def N v6 x7) (fun t=>t.2) v6.length (fun t=>v6.length≤1000000000000∧t.1 = -1) (fun r:((Int)) => -1≤r∧r<v6.length)
@[reducible,instance] def Jgh{x1}{s}:=upL (N:=N) (s:=s) (Qfy.eq_def N x1) (fun t=>t.1) x1.length (fun t=>x1.length≤1000000000000∧t.2.length=s.2.length∧s.2.length≤1000000000000∧sz t.2≤1000000000000) (fun r:(((List Qa))⊕(Int))=>∀t,r=.inl t→t.length=s.2.length∧sz t≤1000000000000)
@[reducible,instance] def Jmn{x0 x1}:=mkW (S7.eq_1 N x0 x1) (sz x0≤1000000000000∧x1.length≤1000000000000) (fun r=>r.2.length≤x0.length∧sz r.2≤1000000000000)
@[reducible,instance] def Qqg{x0 gq gr gt gw gp gx gy j9 ja jb go jc cd ck}:=mkW (Z5.eq_1 N x0 gq gr gt gw gp gx gy j9 ja jb go jc cd ck) (True) (fun r=>True)
@[reducible,instance] def Qjb{ce dy dz g8 g9 ga gb gc gg gi gj d9 gn ck}{s}:=upL (N:=N) (s:=s) (Kg.eq_def N ce dy dz g8 g9 ga gb gc gg gi gj d9 gn ck) (fun t=>t) ce.length (fun t=>ce.length≤1000000000000) (fun r:((Unit)⊕(Int))=>∀t,r=.inr t→0≤t∧t<ce.length)
@[reducible,instance] def Qmd{ce dy dz g8 g9 ga gb gc gg gi gj d9 gn ck}:=mkW (Vc.eq_1 N ce dy dz g8 g9 ga gb gc gg gi gj d9 gn ck) (ce.length≤1000000000000) (fun r => -1≤r∧r<ce.length)
@[reducible,instance] def Quc{cq cz ct d3 d8 cp cy cx cw d4 cg ci c7 cd}:=mkW (Xe.eq_1 N cq cz ct d3 d8 cp cy cx cw d4 cg ci c7 cd) (cd.length≤1000000000000) (fun r => -1≤r.1∧r.1<cd.length∧r.2=cd)
@[reducible,instance] def Qud{cq cz ct d3 d8 cp cy cx cw d4 cg ci c7 cd}:=mkW (Xf.eq_1 N cq cz ct d3 d8 cp cy cx cw d4 cg ci c7 cd) (cd.length≤1000000000000) (fun r => -1≤r.1∧r.1<cd.length∧r.2.1=cq∧r.2.2.1=cz∧r.2.2.2.1=ct∧r.2.2.2.2.1=d3∧r.2.2.2.2.2.1=d8∧r.2.2.2.2.2.2.1=cp∧r.2.2.2.2.2.2.2.1=cy∧r.2.2.2.2.2.2.2.2.1=cx∧r.2.2.2.2.2.2.2.2.2.1=cw∧r.2.2.2.2.2.2.2.2.2.2.1=d4∧r.2.2.2.2.2.2.2.2.2.2.2.1=cg∧r.2.2.2.2.2.2.2.2.2.2.2.2.1=ci∧r.2.2.2.2.2.2.2.2.2.2.2.2.2.1=c7∧r.2.2.2.2.2.2.2.2.2.2.2.2.2.2=cd)
@[reducible,instance] def Qqh{x0 gq gr gt gw gp gx gy j9 ja jb go cd ck cm}:=mkW (Z6.eq_1 N x0 gq gr gt gw gp gx gy j9 ja jb go cd ck cm) (True) (fun r=>True)
@[reducible,instance] def Qjc{ce dy dz g8 g9 ga gb gc gg gi gj d9 ck cm}{s}:=upL (N:=N) (s:=s) (Kh.eq_def N ce dy dz g8 g9 ga gb gc gg gi gj d9 ck cm) (fun t=>t) ce.length (fun t=>ce.length≤1000000000000) (fun r:((Unit)⊕(Int))=>∀t,r=.inr t→0≤t∧t<ce.length)
@[reducible,instance] def Qme{ce dy dz g8 g9 ga gb gc gg gi gj d9 ck cm}:=mkW (Uk.eq_1 N ce dy dz g8 g9 ga gb gc gg gi gj d9 ck cm) (ce.length≤1000000000000) (fun r => -1≤r.1∧r.1<ce.length∧r.2.1=ce∧r.2.2.1=dy∧r.2.2.2.1=dz∧r.2.2.2.2.1=g8∧r.2.2.2.2.2.1=g9∧r.2.2.2.2.2.2.1=ga∧r.2.2.2.2.2.2.2.1=gb∧r.2.2.2.2.2.2.2.2.1=gc∧r.2.2.2.2.2.2.2.2.2.1=gg∧r.2.2.2.2.2.2.2.2.2.2.1=gi∧r.2.2.2.2.2.2.2.2.2.2.2.1=gj∧r.2.2.2.2.2.2.2.2.2.2.2.2.1=d9∧r.2.2.2.2.2.2.2.2.2.2.2.2.2.1=ck∧r.2.2.2.2.2.2.2.2.2.2.2.2.2.2=cm)
@[reducible,instance] def Que{cq cz ct d3 db de dg dh di dj dl dq du dv je dw dx cp cy cx cw d4 cg c7 cd ck}:=mkW (Xg.eq_1 N cq cz ct d3 db de dg dh di dj dl dq du dv je dw dx cp cy cx cw d4 cg c7 cd ck) (cd.length≤1000000000000) (fun r => -1≤r.1∧r.1<cd.length∧r.2.1=cq∧r.2.2.1=cz∧r.2.2.2.1=ct∧r.2.2.2.2.1=d3∧r.2.2.2.2.2.1.1=db∧r.2.2.2.2.2.1.2.1=de∧r.2.2.2.2.2.1.2.2.1=dg∧r.2.2.2.2.2.1.2.2.2.1=dh∧r.2.2.2.2.2.1.2.2.2.2.1=di∧r.2.2.2.2.2.1.2.2.2.2.2.1=dj∧r.2.2.2.2.2.1.2.2.2.2.2.2.1.1=dl∧r.2.2.2.2.2.1.2.2.2.2.2.2.1.2.1=dq∧r.2.2.2.2.2.1.2.2.2.2.2.2.1.2.2.1=du∧r.2.2.2.2.2.1.2.2.2.2.2.2.1.2.2.2.1=dv∧r.2.2.2.2.2.1.2.2.2.2.2.2.1.2.2.2.2=je∧r.2.2.2.2.2.1.2.2.2.2.2.2.2.1=dw∧r.2.2.2.2.2.1.2.2.2.2.2.2.2.2=dx∧r.2.2.2.2.2.2.1=cp∧r.2.2.2.2.2.2.2.1=cy∧r.2.2.2.2.2.2.2.2.1=cx∧r.2.2.2.2.2.2.2.2.2.1=cw∧r.2.2.2.2.2.2.2.2.2.2.1=d4∧r.2.2.2.2.2.2.2.2.2.2.2.1=cg∧r.2.2.2.2.2.2.2.2.2.2.2.2.1=c7∧r.2.2.2.2.2.2.2.2.2.2.2.2.2.1=cd∧r.2.2.2.2.2.2.2.2.2.2.2.2.2.2=ck)
@[reducible,instance] def Qqi{x0 jg go jc cd}:=mkW (Z7.eq_1 N x0 jg go jc cd) (True) (fun r=>True)
@[reducible,instance] def Qjd{ce jd d9 gn}{s}:=upL (N:=N) (s:=s) (Ki.eq_def N ce jd d9 gn) (fun t=>t) ce.length (fun t=>ce.length≤1000000000000) (fun r:((Unit)⊕(Int))=>∀t,r=.inr t→0≤t∧t<ce.length)
@[reducible,instance] def Qmf{ce jd d9 gn}:=mkW (Ul.eq_1 N ce jd d9 gn) (ce.length≤1000000000000) (fun r => -1≤r∧r<ce.length)
@[reducible,instance] def Quf{ca cg ci c7}:=mkW (Xh.eq_1 N ca cg ci c7) (c7.length≤1000000000000) (fun r => -1≤r.1∧r.1<c7.length∧r.2=c7)
@[reducible,instance] def Qq3{x1 cq cz ct d3 d8 cp cy cx cw d4 cg ci c7 cd}:=mkW (Kp.eq_1 N x1 cq cz ct d3 d8 cp cy cx cw d4 cg ci c7 cd) (cd.length≤1000000000000∧d8.2.2.2.2.2.2.1.2.2.2.2.length≤4096) (fun r=>r.1=cq∧r.2.1=cz∧r.2.2.1=ct∧r.2.2.2.1=d3∧r.2.2.2.2.1=d8∧r.2.2.2.2.2.1=cp∧r.2.2.2.2.2.2.2.1=cx∧r.2.2.2.2.2.2.2.2.1=cw∧r.2.2.2.2.2.2.2.2.2.1=d4∧r.2.2.2.2.2.2.2.2.2.2.1=cg∧r.2.2.2.2.2.2.2.2.2.2.2.1=ci∧r.2.2.2.2.2.2.2.2.2.2.2.2.1=c7∧r.2.2.2.2.2.2.2.2.2.2.2.2.2.length=cd.length)
@[reducible,instance] def Qq4{x1 ca cg ci c7}:=mkW (Kq.eq_1 N x1 ca cg ci c7) (c7.length≤1000000000000∧ca.2.2.2.2.2.2.1.length≤1000000000000∧ca.2.2.2.2.1.2.2.2.2.2.2.1.2.2.2.2.length≤4096) (fun r=>r.1.1=ca.1∧r.1.2.1=ca.2.1∧r.1.2.2.1=ca.2.2.1∧r.1.2.2.2.1=ca.2.2.2.1∧r.1.2.2.2.2.1=ca.2.2.2.2.1∧r.1.2.2.2.2.2.1=ca.2.2.2.2.2.1∧r.1.2.2.2.2.2.2.1=ca.2.2.2.2.2.2.1∧r.1.2.2.2.2.2.2.2.2.1=ca.2.2.2.2.2.2.2.2.1∧r.1.2.2.2.2.2.2.2.2.2.1=ca.2.2.2.2.2.2.2.2.2.1∧r.1.2.2.2.2.2.2.2.2.2.2=ca.2.2.2.2.2.2.2.2.2.2∧r.2.1=cg∧r.2.2.1=ci∧r.2.2.2.length=c7.length)
@[reducible,instance] def Qug{c7 x1}{s}:=upL (N:=N) (s:=s) (Fh.eq_def N c7 x1) (fun t=>t.2.1) c7.length (fun t=>c7.length≤1000000000000∧t.2.2.length≤t.2.1) (fun r:((Int×(List Qi)))=>r.2.length≤c7.length)
@[reducible,instance] def Qpj{cd x1}{s}:=upL (N:=N) (s:=s) (G9.eq_def N cd x1) (fun t=>t.2.1) cd.length (fun t=>cd.length≤1000000000000∧t.2.2.length≤t.2.1) (fun r:((Int×(List Qi)))=>r.2.length≤cd.length)
@[reducible,instance] def Qxq{x1 cq cz ct d3 d8 cp cy cx cw d4 cg ci c7 cd}:=mkW (Gr.eq_1 N x1 cq cz ct d3 d8 cp cy cx cw d4 cg ci c7 cd) (sz cg≤1000000000000∧c7.length≤1000000000000∧cd.length≤1000000000000∧d8.2.2.2.2.2.2.1.2.2.2.2.length≤4096) (fun r=>r.1.1=cq∧r.1.2.1=cz∧r.1.2.2.1=ct∧r.1.2.2.2.1=d3∧r.1.2.2.2.2.2.1=0∧r.1.2.2.2.2.2.2.1=([]:List Qi)∧r.1.2.2.2.2.2.2.2.1=0∧r.1.2.2.2.2.2.2.2.2.2.1=cw∧r.1.2.2.2.2.2.2.2.2.2.2=d4∧r.2.2.1=ci∧r.1.2.2.2.2.2.2.1.length≤1000000000000∧r.1.2.2.2.2.1.2.2.2.2.2.2.1.2.2.2.2.length≤4096∧r.2.1.length≤cg.length∧sz r.2.1≤1000000000000∧r.2.2.2.length=cd.length) (k:=by
  intro h
  try simp only[sS,reduceCtorEq]at *
  repeat' (first | intro _ | apply And.intro)
  all_goals first | ((repeat cases ‹_∧_›); first | assumption | omega | (simp only[*]; first | done | assumption | omega)) | exact lv)
@[reducible,instance] def Quh{x1 cq cz ct d3 db de dg dh di dj dl dq du dv dw dx cp cy cx cw d4 c7 cd ck cm d5}:=mkW (Vi.eq_1 N x1 cq cz ct d3 db de dg dh di dj dl dq du dv dw dx cp cy cx cw d4 c7 cd ck cm d5) (sz ck≤1000000000000∧cd.length≤1000000000000∧cm.length≤1000000000000∧c7.length≤4096) (fun r=>r.1.1=cq∧r.1.2.1=cz∧r.1.2.2.1=ct∧r.1.2.2.2.1=d3∧r.1.2.2.2.2.2.1=0∧r.1.2.2.2.2.2.2.1=([]:List Qi)∧r.1.2.2.2.2.2.2.2.1=0∧r.1.2.2.2.2.2.2.2.2.2.1=cw∧r.1.2.2.2.2.2.2.2.2.2.2=d4∧r.2.2.2=d5∧r.1.2.2.2.2.2.2.1.length≤1000000000000∧r.1.2.2.2.2.1.2.2.2.2.2.2.1.2.2.2.2.length≤4096∧r.2.1.length≤ck.length∧sz r.2.1≤1000000000000∧r.2.2.1.length=cm.length) (k:=by
  intro h
  try simp only[sS,reduceCtorEq]at *
  repeat' (first | intro _ | apply And.intro)
  all_goals first | ((repeat cases ‹_∧_›); first | assumption | omega | (simp only[*]; first | done | assumption | omega)) | exact lv)
@[reducible,instance] def Q0b[Y0]{x1 x2 x3 cq cz ct d3 db de dg dh di dj dl dq du dv dw dx cp cy cx cw d4 c7 cd ck cm d5}:=mkW (H0.eq_1 N x1 x2 x3 cq cz ct d3 db de dg dh di dj dl dq du dv dw dx cp cy cx cw d4 c7 cd ck cm d5) (Di x1∧Qu (fun m:Ql=>Aft m.1) x1.1∧(0<x1.1.length→x2<Y0.hi)∧ck.length≤900000000000∧sz ck≤1000000000000∧cm.length≤1000000000∧d5.length≤1000000000∧c7.length≤4096∧cd.length≤1000000000000) (fun r=>r.2.1=cq∧r.2.2.1=cz∧r.2.2.2.1=ct∧r.2.2.2.2.2.1=db∧r.2.2.2.2.2.2.1=de∧r.2.2.2.2.2.2.2.1=dg∧r.2.2.2.2.2.2.2.2.1=dh∧r.2.2.2.2.2.2.2.2.2.1=di∧r.2.2.2.2.2.2.2.2.2.2.1=dj∧r.2.2.2.2.2.2.2.2.2.2.2.1=dl∧r.2.2.2.2.2.2.2.2.2.2.2.2.1=dq∧r.2.2.2.2.2.2.2.2.2.2.2.2.2.1=du∧r.2.2.2.2.2.2.2.2.2.2.2.2.2.2.1=dv∧r.2.2.2.2.2.2.2.2.2.2.2.2.2.2.2.1=c7∧r.2.2.2.2.2.2.2.2.2.2.2.2.2.2.2.2.1=dw∧r.2.2.2.2.2.2.2.2.2.2.2.2.2.2.2.2.2.1=dx∧r.2.2.2.2.2.2.2.2.2.2.2.2.2.2.2.2.2.2.2.2.1=cx∧r.2.2.2.2.2.2.2.2.2.2.2.2.2.2.2.2.2.2.2.2.2.1=cw∧r.2.2.2.2.2.2.2.2.2.2.2.2.2.2.2.2.2.2.2.2.2.2.1=d4∧r.2.2.2.2.2.2.2.2.2.2.2.2.2.2.2.2.2.2.2.2.2.2.2.2.1=d5∧r.2.2.2.2.2.2.2.2.2.2.2.2.2.2.2.2.2.2.2.2.2.2.2.1.length≤ck.length+11468800000∧sz r.2.2.2.2.2.2.2.2.2.2.2.2.2.2.2.2.2.2.2.2.2.2.2.1≤1000000000000∧r.2.2.2.2.2.2.2.2.2.2.2.2.2.2.2.2.2.2.2.2.2.2.2.2.2.1.length≤1000000000000∧r.2.2.2.2.2.2.2.2.2.2.2.2.2.2.2.2.2.2.2.2.2.2.2.2.2.2.length≤cm.length+1) (k:=by
  intro h
  have g0:=h.1.ev; have g1:=h.1.tarL; have g2:=h.1.tarS; have g3:=h.1.tarO; have g4:=h.1.prodL; have g5:=h.1.prodS; have g6:=h.1.prodO; have g7:=h.1.hol
  try simp only[sS,reduceCtorEq]at *
  repeat' (first | intro _ | apply And.intro)
  all_goals first | ((repeat cases ‹_∧_›); first | assumption | omega | (simp only[*]; first | done | assumption | omega) | grind) | exact lv)
@[reducible,instance] def Qup[Y0]{x1 x2 x3 ca cg c7 cd}:=mkW (X6.eq_1 N x1 x2 x3 ca cg c7 cd) (Di x1∧Qu (fun m:Ql=>Aft m.1) x1.1∧(0<x1.1.length→x2<Y0.hi)∧cg.length≤900000000000∧sz cg≤1000000000000∧c7.length≤1000000000∧cd.length≤1000000000∧ca.2.2.2.2.2.2.1.length≤1000000000000∧ca.2.2.2.2.1.2.2.2.2.2.2.1.2.2.2.2.length≤4096) (fun r=>r.2.1.1=ca.1∧r.2.1.2.1=ca.2.1∧r.2.1.2.2.1=ca.2.2.1∧r.2.1.2.2.2.2.1=ca.2.2.2.2.1∧r.2.1.2.2.2.2.2.2.2.2.1=ca.2.2.2.2.2.2.2.2.1∧r.2.1.2.2.2.2.2.2.2.2.2.1=ca.2.2.2.2.2.2.2.2.2.1∧r.2.1.2.2.2.2.2.2.2.2.2.2=ca.2.2.2.2.2.2.2.2.2.2∧r.2.2.2.1=cd∧r.2.1.2.2.2.2.2.2.1.length≤1000000000000∧r.2.1.2.2.2.2.1.2.2.2.2.2.2.1.2.2.2.2.length≤4096∧r.2.2.1.length≤cg.length+11468800000∧sz r.2.2.1≤1000000000000∧r.2.2.2.2.length≤c7.length+1) (k:=by
  intro h
  have g0:=h.1.ev; have g1:=h.1.tarL; have g2:=h.1.tarS; have g3:=h.1.tarO; have g4:=h.1.prodL; have g5:=h.1.prodS; have g6:=h.1.prodO; have g7:=h.1.hol
  try simp only[sS,reduceCtorEq]at *
  repeat' (first | intro _ | apply And.intro)
  all_goals first | ((repeat cases ‹_∧_›); first | assumption | omega | (simp only[*]; first | done | assumption | omega) | grind) | exact lv)
@[reducible,instance] def Q1m{x1 x2 x3 x4 cq cz ct d3 d8 cp cy cx cw d4 cg ci c7 cd}:=mkW (E7.eq_1 N x1 x2 x3 x4 cq cz ct d3 d8 cp cy cx cw d4 cg ci c7 cd) (True) (fun r=>r=(cg,ci,cq,x1.2.1,ct,d3,d8,cp,cy,cx,cw,(x1.1,x1.2.1,x2,x3,x4),(x1.1,x1.2.1,x2,x3,x4),cq,x1.2.1,ct,d3,d8,cp,cy,cx,cw,(x1.1,x1.2.1,x2,x3,x4),cg,ci,cd,c7))
@[reducible,instance] def Qvf{x1 x2 x3 x4 ca cg ci c7}:=mkW (Ze.eq_1 N x1 x2 x3 x4 ca cg ci c7) (True) (fun r=>r=(cg,ci,(ca.1,x1.2.1,ca.2.2.1,ca.2.2.2.1,ca.2.2.2.2.1,ca.2.2.2.2.2.1,ca.2.2.2.2.2.2.1,ca.2.2.2.2.2.2.2.1,ca.2.2.2.2.2.2.2.2.1,ca.2.2.2.2.2.2.2.2.2.1,(x1.1,x1.2.1,x2,x3,x4)),(x1.1,x1.2.1,x2,x3,x4),(ca.1,x1.2.1,ca.2.2.1,ca.2.2.2.1,ca.2.2.2.2.1,ca.2.2.2.2.2.1,ca.2.2.2.2.2.2.1,ca.2.2.2.2.2.2.2.1,ca.2.2.2.2.2.2.2.2.1,ca.2.2.2.2.2.2.2.2.2.1,(x1.1,x1.2.1,x2,x3,x4)),cg,ci,c7))
@[reducible,instance] def Qvg{x1 x2 x3 x4 ca cg c7 cd}:=mkW (Wz.eq_1 N x1 x2 x3 x4 ca cg c7 cd) (True) (fun r=>r=(cg,(ca.1,x1.2.1,ca.2.2.1,ca.2.2.2.1,ca.2.2.2.2.1,ca.2.2.2.2.2.1,ca.2.2.2.2.2.2.1,ca.2.2.2.2.2.2.2.1,ca.2.2.2.2.2.2.2.2.1,ca.2.2.2.2.2.2.2.2.2.1,(x1.1,x1.2.1,x2,x3,x4)),(x1.1,x1.2.1,x2,x3,x4),(ca.1,x1.2.1,ca.2.2.1,ca.2.2.2.1,ca.2.2.2.2.1,ca.2.2.2.2.2.1,ca.2.2.2.2.2.2.1,ca.2.2.2.2.2.2.2.1,ca.2.2.2.2.2.2.2.2.1,ca.2.2.2.2.2.2.2.2.2.1,(x1.1,x1.2.1,x2,x3,x4)),cg,c7,cd))
@[reducible,instance] def Q0c{x1 ca cg ci c7}:=mkW (H1.eq_1 N x1 ca cg ci c7) (True) (fun r=>r=((ca.1,ca.2.1,ca.2.2.1,x1,ca.2.2.2.2.1,ca.2.2.2.2.2.1,ca.2.2.2.2.2.2.1,ca.2.2.2.2.2.2.2.1,ca.2.2.2.2.2.2.2.2.1,true,ca.2.2.2.2.2.2.2.2.2.2),cg,ci,c7))
@[reducible,instance] def Quq{x1 ca cg c7 cd}:=mkW (X5.eq_1 N x1 ca cg c7 cd) (True) (fun r=>r=((ca.1,ca.2.1,ca.2.2.1,x1,ca.2.2.2.2.1,ca.2.2.2.2.2.1,ca.2.2.2.2.2.2.1,ca.2.2.2.2.2.2.2.1,ca.2.2.2.2.2.2.2.2.1,true,ca.2.2.2.2.2.2.2.2.2.2),cg,c7,cd))
@[reducible,instance] def Qur{x1 x2 cq cz ct d3 d8 cp cy cx cw d4 cg ci c7 cd}:=mkW (X4.eq_1 N x1 x2 cq cz ct d3 d8 cp cy cx cw d4 cg ci c7 cd) (True) (fun r=>r.1=cg∧r.2.1=ci∧r.2.2.1=cq∧r.2.2.2.1=x1.2.1∧r.2.2.2.2.1=ct∧r.2.2.2.2.2.1=d3∧r.2.2.2.2.2.2.1=d8∧r.2.2.2.2.2.2.2.1=cp∧r.2.2.2.2.2.2.2.2.1=cy∧r.2.2.2.2.2.2.2.2.2.1=cx∧r.2.2.2.2.2.2.2.2.2.2.1=cw∧r.2.2.2.2.2.2.2.2.2.2.2.1.1=x1.1∧r.2.2.2.2.2.2.2.2.2.2.2.1.2.1=x1.2.1∧r.2.2.2.2.2.2.2.2.2.2.2.1.2.2.1=cp∧r.2.2.2.2.2.2.2.2.2.2.2.1.2.2.2.2=x2∧r.2.2.2.2.2.2.2.2.2.2.2.2.1.1=x1.1∧r.2.2.2.2.2.2.2.2.2.2.2.2.1.2.1=x1.2.1∧r.2.2.2.2.2.2.2.2.2.2.2.2.1.2.2.1=cp∧r.2.2.2.2.2.2.2.2.2.2.2.2.1.2.2.2.2=x2∧r.2.2.2.2.2.2.2.2.2.2.2.2.2.1=cq∧r.2.2.2.2.2.2.2.2.2.2.2.2.2.2.1=x1.2.1∧r.2.2.2.2.2.2.2.2.2.2.2.2.2.2.2.1=ct∧r.2.2.2.2.2.2.2.2.2.2.2.2.2.2.2.2.1=d3∧r.2.2.2.2.2.2.2.2.2.2.2.2.2.2.2.2.2.1=d8∧r.2.2.2.2.2.2.2.2.2.2.2.2.2.2.2.2.2.2.1=cp∧r.2.2.2.2.2.2.2.2.2.2.2.2.2.2.2.2.2.2.2.1=cy∧r.2.2.2.2.2.2.2.2.2.2.2.2.2.2.2.2.2.2.2.2.1=cx∧r.2.2.2.2.2.2.2.2.2.2.2.2.2.2.2.2.2.2.2.2.2.1=cw∧r.2.2.2.2.2.2.2.2.2.2.2.2.2.2.2.2.2.2.2.2.2.2.1.1=x1.1∧r.2.2.2.2.2.2.2.2.2.2.2.2.2.2.2.2.2.2.2.2.2.2.1.2.1=x1.2.1∧r.2.2.2.2.2.2.2.2.2.2.2.2.2.2.2.2.2.2.2.2.2.2.1.2.2.1=cp∧r.2.2.2.2.2.2.2.2.2.2.2.2.2.2.2.2.2.2.2.2.2.2.1.2.2.2.2=x2∧r.2.2.2.2.2.2.2.2.2.2.2.2.2.2.2.2.2.2.2.2.2.2.2.1=cg∧r.2.2.2.2.2.2.2.2.2.2.2.2.2.2.2.2.2.2.2.2.2.2.2.2.1=ci∧r.2.2.2.2.2.2.2.2.2.2.2.2.2.2.2.2.2.2.2.2.2.2.2.2.2.1=cd∧r.2.2.2.2.2.2.2.2.2.2.2.2.2.2.2.2.2.2.2.2.2.2.2.2.2.2=c7∧r.2.2.2.2.2.2.2.2.2.2.2.1=r.2.2.2.2.2.2.2.2.2.2.2.2.1) (k:=by
  intro h
  try simp only[sS,reduceCtorEq]at *
  repeat' (first | intro _ | apply And.intro)
  all_goals first | ((repeat cases ‹_∧_›); first | assumption | omega | (simp only[*]; first | done | assumption | omega)) | exact lv)
@[reducible,instance] def Qqj{x1 x2 ca cg ci c7}:=mkW (Z8.eq_1 N x1 x2 ca cg ci c7) (True) (fun r=>r.1=cg∧r.2.1=ci∧r.2.2.1.1=ca.1∧r.2.2.1.2.1=x1.2.1∧r.2.2.1.2.2.1=ca.2.2.1∧r.2.2.1.2.2.2.1=ca.2.2.2.1∧r.2.2.1.2.2.2.2.1=ca.2.2.2.2.1∧r.2.2.1.2.2.2.2.2.1=ca.2.2.2.2.2.1∧r.2.2.1.2.2.2.2.2.2.1=ca.2.2.2.2.2.2.1∧r.2.2.1.2.2.2.2.2.2.2.1=ca.2.2.2.2.2.2.2.1∧r.2.2.1.2.2.2.2.2.2.2.2.1=ca.2.2.2.2.2.2.2.2.1∧r.2.2.1.2.2.2.2.2.2.2.2.2.1=ca.2.2.2.2.2.2.2.2.2.1∧r.2.2.1.2.2.2.2.2.2.2.2.2.2.1=x1.1∧r.2.2.1.2.2.2.2.2.2.2.2.2.2.2.1=x1.2.1∧r.2.2.1.2.2.2.2.2.2.2.2.2.2.2.2.1=ca.2.2.2.2.2.1∧r.2.2.1.2.2.2.2.2.2.2.2.2.2.2.2.2.2=x2∧r.2.2.2.1.1=x1.1∧r.2.2.2.1.2.1=x1.2.1∧r.2.2.2.1.2.2.1=ca.2.2.2.2.2.1∧r.2.2.2.1.2.2.2.2=x2∧r.2.2.2.2.1.1=ca.1∧r.2.2.2.2.1.2.1=x1.2.1∧r.2.2.2.2.1.2.2.1=ca.2.2.1∧r.2.2.2.2.1.2.2.2.1=ca.2.2.2.1∧r.2.2.2.2.1.2.2.2.2.1=ca.2.2.2.2.1∧r.2.2.2.2.1.2.2.2.2.2.1=ca.2.2.2.2.2.1∧r.2.2.2.2.1.2.2.2.2.2.2.1=ca.2.2.2.2.2.2.1∧r.2.2.2.2.1.2.2.2.2.2.2.2.1=ca.2.2.2.2.2.2.2.1∧r.2.2.2.2.1.2.2.2.2.2.2.2.2.1=ca.2.2.2.2.2.2.2.2.1∧r.2.2.2.2.1.2.2.2.2.2.2.2.2.2.1=ca.2.2.2.2.2.2.2.2.2.1∧r.2.2.2.2.1.2.2.2.2.2.2.2.2.2.2.1=x1.1∧r.2.2.2.2.1.2.2.2.2.2.2.2.2.2.2.2.1=x1.2.1∧r.2.2.2.2.1.2.2.2.2.2.2.2.2.2.2.2.2.1=ca.2.2.2.2.2.1∧r.2.2.2.2.1.2.2.2.2.2.2.2.2.2.2.2.2.2.2=x2∧r.2.2.2.2.2.1=cg∧r.2.2.2.2.2.2.1=ci∧r.2.2.2.2.2.2.2=c7∧r.2.2.1.2.2.2.2.2.2.2.2.2.2=r.2.2.2.1) (k:=by
  intro h
  try simp only[sS,reduceCtorEq]at *
  repeat' (first | intro _ | apply And.intro)
  all_goals first | ((repeat cases ‹_∧_›); first | assumption | omega | (simp only[*]; first | done | assumption | omega)) | exact lv)
@[reducible,instance] def Jhf{x0 x1 x2 x3}:=mkW (Io.eq_1 N x0 x1 x2 x3) (True) (fun r=>r=0→x1.1=x0.1∧x1.2.2.2.1<12622780800)
@[reducible,instance] def Jhg[Y0]{x0 x1 x2}:=mkW (Fi.eq_1 N x0 x1 x2) (Di x0∧Qu (fun m:Ql=>Aft m.1) x0.1∧x1.1.length≤900000000000∧sz x1.1≤1000000000000∧x1.2.1.length≤1000000000∧x1.2.2.length≤1000000000∧Sh.sh x2.2.2.2.2.2.2.1∧List.length x2.2.2.2.2.2.2.1≤9223372036854775807∧(0<x0.1.length→x2.2.2.2.1<12622780800→x2.2.2.2.1<Y0.hi)) (fun r=>r.2.1=x1.2.2∧r.1.length≤x1.1.length+11468800000∧sz r.1≤1000000000000∧r.2.2.2.2.2.2.2.2.2.2.2.2.2.2.2.2.2.2.2.2.2.2.2.2.2.2.length≤x1.2.1.length+1∧r.2.2.2.2.2.2.2.2.2.2.2.2.2.2.2.2.1.length≤4096∧r.2.2.2.2.2.2.2.2.2.2.2.2.2.2.2.2.2.2.2.2.1.length≤1000000000000∧((r.2.2.1=0∧r.1=x1.1∧r.2.2.2.2.2.2.2.2.2.2.2.2.2.2.2.2.2.2.2.2.2.2.2.2.2.2=x1.2.1)∨(r.2.2.1=x2.1∧1≤x2.1∧r.2.2.2.1=x2.2.1∧r.2.2.2.2.2.2.2.2.2.2.2.2.2.2.2.2.2.2.2.2.2.2.2.2.1=r.2.2.2.2.2.2.2.2.2.2.2.2.2.2.2.2.2.2.2.2.2.2.2.2.2.1))) (k:=by
  intro h
  have g0:=h.1.ev; have g1:=h.1.tarL; have g2:=h.1.tarS; have g3:=h.1.tarO; have g4:=h.1.prodL; have g5:=h.1.prodS; have g6:=h.1.prodO; have g7:=h.1.hol
  try simp only[sS,reduceCtorEq]at *
  repeat' (first | intro _ | apply And.intro)
  all_goals first | ((repeat cases ‹_∧_›); first | assumption | trivial | omega | (simp only[*]; first | done | trivial | assumption | omega) | (refine .inl ?_; (repeat' apply And.intro)<;>first | rfl | assumption | omega | (simp only[*]; done)) | (refine .inr ?_; (repeat' apply And.intro)<;>first | rfl | assumption | omega | (simp only[*]; done) | grind) | grind) | exact lv)
@[reducible,instance] def Jgi[Y0]{x0 x1 x2 x3}:=mkW (X7.eq_1 N x0 x1 x2 x3) (Di x0∧Qu (fun m:Ql=>Aft m.1) x0.1∧x1.1.length≤900000000000∧sz x1.1≤1000000000000∧x1.2.1.length≤1000000000∧x1.2.2.length≤1000000000∧x2.2.2.2.2.2.2.1.length≤1000000000000∧x2.2.2.2.2.1.2.2.2.2.2.2.1.2.2.2.2.length≤4096∧Sh.sh x3.2.2.2.2.2.2.1∧List.length x3.2.2.2.2.2.2.1≤9223372036854775807∧(0<x0.1.length→x3.2.2.2.1<12622780800→x3.2.2.2.1<Y0.hi)) (fun r=>r.2.1=x1.2.2∧r.2.2.1=x2.1∧r.1.length≤x1.1.length+11468800000∧sz r.1≤1000000000000∧r.2.2.2.2.2.2.2.2.2.2.2.2.2.2.2.2.2.2.2.2.2.2.2.2.2.2.length≤x1.2.1.length+1∧r.2.2.2.2.2.2.2.2.2.2.2.2.2.2.2.2.1.length≤4096∧r.2.2.2.2.2.2.2.2.2.2.2.2.2.2.2.2.2.2.2.2.1.length≤1000000000000∧(((r.2.2.1,r.2.2.2.1,r.2.2.2.2.1,r.2.2.2.2.2.1,(r.2.2.2.2.2.2.1,r.2.2.2.2.2.2.2.1,r.2.2.2.2.2.2.2.2.1,r.2.2.2.2.2.2.2.2.2.1,r.2.2.2.2.2.2.2.2.2.2.1,r.2.2.2.2.2.2.2.2.2.2.2.1,(r.2.2.2.2.2.2.2.2.2.2.2.2.1,r.2.2.2.2.2.2.2.2.2.2.2.2.2.1,r.2.2.2.2.2.2.2.2.2.2.2.2.2.2.1,r.2.2.2.2.2.2.2.2.2.2.2.2.2.2.2.1,r.2.2.2.2.2.2.2.2.2.2.2.2.2.2.2.2.1),r.2.2.2.2.2.2.2.2.2.2.2.2.2.2.2.2.2.1,r.2.2.2.2.2.2.2.2.2.2.2.2.2.2.2.2.2.2.1),r.2.2.2.2.2.2.2.2.2.2.2.2.2.2.2.2.2.2.2.1,r.2.2.2.2.2.2.2.2.2.2.2.2.2.2.2.2.2.2.2.2.1,r.2.2.2.2.2.2.2.2.2.2.2.2.2.2.2.2.2.2.2.2.2.1,r.2.2.2.2.2.2.2.2.2.2.2.2.2.2.2.2.2.2.2.2.2.2.1,r.2.2.2.2.2.2.2.2.2.2.2.2.2.2.2.2.2.2.2.2.2.2.2.1,r.2.2.2.2.2.2.2.2.2.2.2.2.2.2.2.2.2.2.2.2.2.2.2.2.1)=x2∧r.1=x1.1∧r.2.2.2.2.2.2.2.2.2.2.2.2.2.2.2.2.2.2.2.2.2.2.2.2.2.2=x1.2.1∧r.2.2.2.2.2.2.2.2.2.2.2.2.2.2.2.2.2.2.2.2.2.2.2.2.2.1.2.1=x3.2.1∧r.2.2.2.2.2.2.2.2.2.2.2.2.2.2.2.2.2.2.2.2.2.2.2.2.2.1.1=x3.1)∨(r.2.2.2.1=x3.2.1∧r.2.2.2.2.2.2.2.2.2.2.2.2.2.2.2.2.2.2.2.2.2.2.2.2.1=r.2.2.2.2.2.2.2.2.2.2.2.2.2.2.2.2.2.2.2.2.2.2.2.2.2.1))) (k:=by
  intro h
  have g0:=h.1.ev; have g1:=h.1.tarL; have g2:=h.1.tarS; have g3:=h.1.tarO; have g4:=h.1.prodL; have g5:=h.1.prodS; have g6:=h.1.prodO; have g7:=h.1.hol
  try simp only[sS,reduceCtorEq]at *
  repeat' (first | intro _ | apply And.intro)
  all_goals first | ((repeat cases ‹_∧_›); first | assumption | trivial | omega | (simp only[*]; first | done | trivial | assumption | omega) | (refine .inl ?_; (repeat' apply And.intro)<;>first | rfl | assumption | omega | (simp only[*]; done)) | (refine .inr ?_; (repeat' apply And.intro)<;>first | rfl | assumption | omega | (simp only[*]; done) | grind) | grind) | exact lv)
@[reducible,instance] def Jlx[Y0]{x0 x1 x2 x3}:=mkW (Em.eq_1 N x0 x1 x2 x3) (Di x0∧Qu (fun m:Ql=>Aft m.1) x0.1∧x1.1.length≤900000000000∧sz x1.1≤1000000000000∧x1.2.1.length≤1000000000∧x1.2.2.length≤1000000000∧x2.2.2.2.2.2.2.1.length≤1000000000000∧x2.2.2.2.2.1.2.2.2.2.2.2.1.2.2.2.2.length≤4096∧Sh.sh x3.2.2.2.2.2.2.1∧List.length x3.2.2.2.2.2.2.1≤9223372036854775807∧(0<x0.1.length→x3.2.2.2.1<12622780800→x3.2.2.2.1<Y0.hi)) (fun r=>r.2.2.2.2.2.2.2.2.2.2.2.2.2.2.2.2.2.2.2.2.2.2.2.2.2.2=x1.2.2∧r.2.1=x2.1∧r.1.length≤x1.1.length+11468800000∧sz r.1≤1000000000000∧r.2.2.2.2.2.2.2.2.2.2.2.2.2.2.2.2.2.2.2.2.2.2.2.2.2.1.length≤x1.2.1.length+1∧r.2.2.2.2.2.2.2.2.2.2.2.2.2.2.2.1.length≤4096∧r.2.2.2.2.2.2.2.2.2.2.2.2.2.2.2.2.2.2.2.1.length≤1000000000000∧(((r.2.1,r.2.2.1,r.2.2.2.1,r.2.2.2.2.1,(r.2.2.2.2.2.1,r.2.2.2.2.2.2.1,r.2.2.2.2.2.2.2.1,r.2.2.2.2.2.2.2.2.1,r.2.2.2.2.2.2.2.2.2.1,r.2.2.2.2.2.2.2.2.2.2.1,(r.2.2.2.2.2.2.2.2.2.2.2.1,r.2.2.2.2.2.2.2.2.2.2.2.2.1,r.2.2.2.2.2.2.2.2.2.2.2.2.2.1,r.2.2.2.2.2.2.2.2.2.2.2.2.2.2.1,r.2.2.2.2.2.2.2.2.2.2.2.2.2.2.2.1),r.2.2.2.2.2.2.2.2.2.2.2.2.2.2.2.2.1,r.2.2.2.2.2.2.2.2.2.2.2.2.2.2.2.2.2.1),r.2.2.2.2.2.2.2.2.2.2.2.2.2.2.2.2.2.2.1,r.2.2.2.2.2.2.2.2.2.2.2.2.2.2.2.2.2.2.2.1,r.2.2.2.2.2.2.2.2.2.2.2.2.2.2.2.2.2.2.2.2.1,r.2.2.2.2.2.2.2.2.2.2.2.2.2.2.2.2.2.2.2.2.2.1,r.2.2.2.2.2.2.2.2.2.2.2.2.2.2.2.2.2.2.2.2.2.2.1,r.2.2.2.2.2.2.2.2.2.2.2.2.2.2.2.2.2.2.2.2.2.2.2.1)=x2∧r.1=x1.1∧r.2.2.2.2.2.2.2.2.2.2.2.2.2.2.2.2.2.2.2.2.2.2.2.2.2.1=x1.2.1∧r.2.2.2.2.2.2.2.2.2.2.2.2.2.2.2.2.2.2.2.2.2.2.2.2.1.2.1=x3.2.1∧r.2.2.2.2.2.2.2.2.2.2.2.2.2.2.2.2.2.2.2.2.2.2.2.2.1.1=x3.1)∨(r.2.2.1=x3.2.1∧r.2.2.2.2.2.2.2.2.2.2.2.2.2.2.2.2.2.2.2.2.2.2.2.1=r.2.2.2.2.2.2.2.2.2.2.2.2.2.2.2.2.2.2.2.2.2.2.2.2.1))) (k:=by
  intro h
  have g0:=h.1.ev; have g1:=h.1.tarL; have g2:=h.1.tarS; have g3:=h.1.tarO; have g4:=h.1.prodL; have g5:=h.1.prodS; have g6:=h.1.prodO; have g7:=h.1.hol
  try simp only[sS,reduceCtorEq]at *
  repeat' (first | intro _ | apply And.intro)
  all_goals first | ((repeat cases ‹_∧_›); first | assumption | trivial | omega | (simp only[*]; first | done | trivial | assumption | omega) | (refine .inl ?_; (repeat' apply And.intro)<;>first | rfl | assumption | omega | (simp only[*]; done)) | (refine .inr ?_; (repeat' apply And.intro)<;>first | rfl | assumption | omega | (simp only[*]; done) | grind) | grind) | exact lv)
@[reducible,instance] def Jdg{x0 x1}:=mkW (Gf.eq_1 N x0 x1) (x0.1.length≤900000000000∧sz x0.1≤1000000000000∧x0.2.1.length≤1000000000∧x0.2.2.length≤1000000000∧x1.2.2.2.2.2.2.1.length≤1000000000000∧x1.2.2.2.2.1.2.2.2.2.2.2.1.2.2.2.2.length≤4096) (fun r=>r.2.1.1=x1.1∧r.2.1.2.1=x1.2.1∧r.2.1.2.2.1=x1.2.2.1∧r.2.1.2.2.2.1=x1.2.2.2.1∧r.2.1.2.2.2.2.2.2.2.2.2.2=x1.2.2.2.2.2.2.2.2.2.2∧r.2.2.2=x0.2.2∧r.2.1.2.2.2.2.2.2.1.length≤1000000000000∧r.2.1.2.2.2.2.1.2.2.2.2.2.2.1.2.2.2.2.length≤4096∧r.1.length≤x0.1.length∧sz r.1≤1000000000000∧r.2.2.1.length=x0.2.1.length∧r.2.1.2.2.2.2.2.2.2.2.2.1=true) (k:=by
  intro h
  try simp only[sS,reduceCtorEq]at *
  repeat' (first | intro _ | apply And.intro)
  all_goals first | ((repeat cases ‹_∧_›); first | assumption | trivial | omega | (simp only[*]; first | done | trivial | assumption | omega) | (refine .inl ?_; (repeat' apply And.intro)<;>first | rfl | assumption | omega | (simp only[*]; done)) | (refine .inr ?_; (repeat' apply And.intro)<;>first | rfl | assumption | omega | (simp only[*]; done) | grind) | grind) | exact lv)
structure Ue(p:Int×Qb):Prop where
 key:Ho p.1=true
 id:p.2.1=p.1
 tk:p.2.2.2.2.2.2.2.1.length≤1000000000000
 st:p.2.2.2.2.2.1.2.2.2.2.2.2.1.2.2.2.2.length≤4096
abbrev Qqk:Qb:=(0,0,0,0,(0,0,0,([]:Str),([]:Str),0,(0,([]:Str),([]:Str),0,([]:List Qo)),0,0),0,([]:List Qi),0,0,false,(0,0,0,0,0))
structure Qkk(m:List (Int×Qb))(k q:Int)(a:Qq):Prop where
 ex:∃x:Qb,Qh (k:=.int .i64) k m=some x∧x.2.1=q∧x.2.2.2.2.2.2.2.2.2.2=a
theorem eqI{a b:Int}:eqK (.int .i64) a b=true↔a=b:=Za rfl
section
variable {V:Type} {k:Int} {x y:V}
theorem Qb8:∀{m:List (Int×V)},Qh (k:=.int .i64) k m=some x→(k,x)∈m
 | z::m,h=>by
  unfold Qh at h
  cases hk:eqK (.int .i64) k z.1 with
  | true=>rw[hk]at h; have:=eqI.1 hk; cases Option.some.inj h; subst this; exact .head _
  | false=>rw[hk]at h; exact .tail _ (Qb8 h)
theorem Qb9:∀{m:List (Int×V)},Qh (k:=.int .i64) k (Qz (k:=.int .i64) k x m:List (Int×V))=some x
 | []=>by simp only[Qz,Qh,Qb7,cond_true]
 | z::m=>by
  unfold Qz
  cases hk:eqK (.int .i64) k z.1 with
  | true=>simp only[Qh,Qb7,cond_true]
  | false=>simp only[cond_false,Qh,hk]; exact Qb9
theorem Qmg{j:Int}(h:j≠k):∀{m:List (Int×V)},Qh (k:=.int .i64) j (Qz (k:=.int .i64) k x m:List (Int×V))=Qh (k:=.int .i64) j m
 | []=>by
  have e:eqK (.int .i64) j k=false:=Bool.eq_false_iff.2 fun e=>h (eqI.1 e)
  simp only[Qz,Qh,e,cond_false]
 | z::m=>by
  unfold Qz
  have e:eqK (.int .i64) j k=false:=Bool.eq_false_iff.2 fun e=>h (eqI.1 e)
  cases hk:eqK (.int .i64) k z.1 with
  | true=>have:=eqI.1 hk; subst this; simp only[cond_true,Qh,e,cond_false]
  | false=>simp only[cond_false,Qh,Qmg h]
theorem Eb:∀{m:List (Int×V)},(Qz (k:=.int .i64) k x (Qz (k:=.int .i64) k y m:List (Int×V)):List (Int×V))=Qz (k:=.int .i64) k x m
 | []=>by simp only[Qz,Qb7,cond_true]
 | z::m=>by
  cases hk:eqK (.int .i64) k z.1 with
  | true=>simp only[Qz,hk,Qb7,cond_true]
  | false=>simp only[cond_false,Qz,hk]; rw[Eb]
theorem Q5z:∀{m:List (Int×V)},Qh (k:=.int .i64) k m=none→(F0 (k:=.int .i64) k (Qz (k:=.int .i64) k x m:List (Int×V)):List (Int×V))=m
 | [],_=>by simp only[Qz,F0,Qb7,cond_true]
 | z::m,h=>by
  unfold Qh at h
  unfold Qz
  cases hk:eqK (.int .i64) k z.1 with
  | true=>rw[hk]at h; cases h
  | false=>rw[hk]at h; simp only[cond_false,F0,hk]; rw[Q5z h]
theorem Qxr:∀{m:List (Int×V)},Qh (k:=.int .i64) k m=some x→(Qz (k:=.int .i64) k x m:List (Int×V))=m
 | z::m,h=>by
  unfold Qh at h
  unfold Qz
  cases hk:eqK (.int .i64) k z.1 with
  | true=>rw[hk]at h; have:=eqI.1 hk; cases Option.some.inj h; subst this; rfl
  | false=>rw[hk]at h; simp only[cond_false]; rw[Qxr h]
theorem Qxs:∀{m:List (Int×V)},(Qh (k:=.int .i64) k m).isSome=true→(Qz (k:=.int .i64) k x m:List (Int×V)).map Prod.fst=m.map Prod.fst
 | z::m,h=>by
  unfold Qh at h
  unfold Qz
  cases hk:eqK (.int .i64) k z.1 with
  | true=>have:=eqI.1 hk; subst this; rfl
  | false=>rw[hk]at h; simp only[cond_false,QR]; rw[Qxs h]
theorem Qxt:∀{m:List (Int×V)},k∈m.map Prod.fst→(Qh (k:=.int .i64) k m).isSome=true
 | z::m,h=>by
  unfold Qh
  cases hk:eqK (.int .i64) k z.1 with
  | true=>rfl
  | false =>
   rw[QR]at h
   rcases QJ.1 h with h | h
   ·rw[h,Qb7]at hk; cases hk
   ·exact Qxt h
end
theorem Q95{m:List (Int×Qb)}{k:Int}(hs:(Qh (k:=.int .i64) k m).isSome=true)(h:Qu Ue m):Ue (k,(Qh (k:=.int .i64) k m).getD Qqk):=by
 obtain⟨x,hx⟩:=XQ.1 hs
 rw[hx]
 exact h.all _ (Qb8 hx)
theorem Az{m:List (Int×Qb)}{k:Int}(h:Qu Ue m):((Qh (k:=.int .i64) k m).getD Qqk).2.2.2.2.2.2.1.length≤1000000000000:=by
 cases hx:Qh (k:=.int .i64) k m with
 | none=>exact QO _
 | some x=>exact(h.all _ (Qb8 hx)).tk
theorem A1{m:List (Int×Qb)}{k:Int}(h:Qu Ue m):((Qh (k:=.int .i64) k m).getD Qqk).2.2.2.2.1.2.2.2.2.2.2.1.2.2.2.2.length≤4096:=by
 cases hx:Qh (k:=.int .i64) k m with
 | none=>exact QO _
 | some x=>exact(h.all _ (Qb8 hx)).st
theorem Qdv{m:List (Int×Qb)}{k:Int}{x:Qb}(h:Qu Ue m)(hx:Ue (k,x)):Qu Ue (Qz (k:=.int .i64) k x m):=⟨fun p hp=>(Qt5 hp).elim (fun e=>e▸hx) (h.all p)⟩
theorem Q50{m:List (Int×Qb)}{k:Int}{x y z:Qb}(h:Qu Ue m)(hx:Ue (k,x)):Qu Ue (Qz (k:=.int .i64) k x (Qz (k:=.int .i64) k y (Qz (k:=.int .i64) k z m))):=by
 rw[Eb,Eb]; exact Qdv h hx
theorem Q51{m:List (Int×Qb)}{k:Int}{x y z:Qb}(h:Qh (k:=.int .i64) k m=none):F0 (k:=.int .i64) k (Qz (k:=.int .i64) k x (Qz (k:=.int .i64) k y (Qz (k:=.int .i64) k z m)))=m:=by
 rw[Eb,Eb,Q5z h]
theorem Qmh{m:List (Int×Qb)}{k:Int}{x y z:Qb}:(Qz (k:=.int .i64) k x (Qz (k:=.int .i64) k y (Qz (k:=.int .i64) k z m))).length≤m.length+1:=by
 rw[Eb,Eb]; exact Gi k x m
theorem Qg8{m:List (Int×Qb)}{k q:Int}{x:Qb}{a:Qq}(h1:x.2.1=q)(h2:x.2.2.2.2.2.2.2.2.2.2=a):Qkk (Qz (k:=.int .i64) k x m) k q a:=⟨x,Qb9,h1,h2⟩
theorem Q52{m:List (Int×Qb)}{k:Int}(hs:(Qh (k:=.int .i64) k m).isSome=true)(h:Qu Ue m):Qh (k:=.int .i64) ((Qh (k:=.int .i64) k m).getD Qqk).1 m=some ((Qh (k:=.int .i64) k m).getD Qqk):=by
 have hi:((Qh (k:=.int .i64) k m).getD Qqk).1=k:=(Q95 hs h).id
 rw[hi]
 obtain⟨x,hx⟩:=XQ.1 hs
 rw[hx]; rfl
theorem Q0d{α:Type}{o:Option α}(h:o.isSome=false):o=none:=by cases o with | none=>rfl | some x=>cases h
theorem Q0e{m:List (Int×Qb)}{k:Int}(hs:¬(Qh (k:=.int .i64) k m).isSome=false)(h:Qu Ue m):Ue (k,(Qh (k:=.int .i64) k m).getD Qqk):=Q95 (ZI hs) h
theorem Q0f{m:List (Int×Qb)}{k:Int}{x:Qb}(hs:¬(Qh (k:=.int .i64) k m).isSome=false)(e:x=(Qh (k:=.int .i64) k m).getD Qqk):Qz (k:=.int .i64) k x m=m:=by
 obtain⟨y,hy⟩:=XQ.1 (ZI hs)
 rw[hy]at e
 exact Qxr (hy.trans (congrArg some e.symm))
instance wpSortK {β:Type} {m:List (Int×β)}:WP (Qix m) (fun R=>(m.length≤1099511627776∧∀p∈m,Ho p.1=true)∧R (Qcz (m.map Prod.fst))):=⟨fun R h=>⟨_,by
 have h1:Nat.ble (m.length*8) 140737488355328=true:=by rw[Nat.ble_eq]; have:=h.1.1; omega
 have h2:(m.all fun q=>Ho q.1)=true:=QP.2 fun q hq=>h.1.2 q hq
 unfold Qix
 rw[h1,h2]; rfl,h.2⟩⟩
structure A3(l:List Int)(m:List (Int×Qb)):Prop where
 len:l.length=m.length
 all:∀k∈l,(Qh (k:=.int .i64) k m).isSome=true
 on:∀k x,Qh (k:=.int .i64) k m=some x→k∈l
theorem J6(m:List (Int×Qb)):A3 (Qcz (m.map Prod.fst)) m:=⟨by rw[(A8 _).length_eq,JO],fun k hk=>Qxt ((A8 _).mem_iff.1 hk),fun k x hx=>(A8 _).mem_iff.2 (QZ.2 ⟨_,Qb8 hx,rfl⟩)⟩
theorem Qxu{m:List (Int×Qb)}{k:Int}{x:Qb}(h:(Qh (k:=.int .i64) k m).isSome=true):(Qz (k:=.int .i64) k x m).length=m.length:=by
 have:=congrArg List.length (Qxs (x:=x) h)
 rw[JO,JO]at this
 exact this
theorem Q96{l:List Int}{m:List (Int×Qb)}{k:Int}{x:Qb}(hk:k∈l)(h:A3 l m):A3 l (Qz (k:=.int .i64) k x m):=⟨by
 rw[Qxu (h.all k hk)]; exact h.len,fun j hj=>by
 by_cases e:j=k
 ·subst e; rw[Qb9]; rfl
 ·rw[Qmg e]; exact h.all j hj,fun j y hy=>by
 by_cases e:j=k
 ·subst e; exact hk
 ·rw[Qmg e]at hy; exact h.on j y hy⟩
theorem Uz{m:List (Int×Qb)}(h:Qu Ue m):∀p∈m,Ho p.1=true:=fun p hp=>(h.all p hp).key
structure Qmi(t:Int)(m:List (Int×Qb))(k:Int):Prop where
 ok:∀x:Qb,Qh (k:=.int .i64) k m=some x→x.2.2.2.2.2.2.2.2.2.1=true∨t<x.2.2.2.1
structure Qoc(t:Int)(m:List (Int×Qb)):Prop where
 ok:∀k,Qmi t m k
theorem Joj{t:Int}{m:List (Int×Qb)}{k:Int}{x:Qb}{l:List Int}{v:Int}(h0:0≤v)(h:Nu (Qmi t m) l v)(hk:l[v.toNat]?=some k)(hx:x.2.2.2.2.2.2.2.2.2.1=true):Nu (Qmi t (Qz (k:=.int .i64) k x m)) l (v+1):=by
 have hp:∀j,Qmi t m j→Qmi t (Qz (k:=.int .i64) k x m) j:=fun j hj=>⟨fun y hy=>by
  by_cases e:j=k
  ·subst e; rw[Qb9]at hy; cases Option.some.inj hy; exact .inl hx
  ·rw[Qmg e]at hy; exact hj.ok y hy⟩
 refine Rk h0 ⟨fun j hj a ha=>hp a (h.at_ j hj a ha)⟩ hk ⟨fun y hy=>?_⟩
 rw[Qb9]at hy; cases Option.some.inj hy; exact .inl hx
theorem Jly{t:Int}{m:List (Int×Qb)}{k:Int}{l:List Int}{v:Int}(h0:0≤v)(h:Nu (Qmi t m) l v)(hk:l[v.toNat]?=some k)(hx:((Qh (k:=.int .i64) k m).getD Qqk).2.2.2.2.2.2.2.2.2.1=false→¬((Qh (k:=.int .i64) k m).getD Qqk).2.2.2.1≤t):Nu (Qmi t m) l (v+1) :=
 Rk h0 h hk ⟨fun y hy=>by
  rw[hy]at hx
  simp only[XF]at hx
  cases hc:y.2.2.2.2.2.2.2.2.2.1 with
  | true=>exact .inl rfl
  | false=>exact .inr (by have:=hx hc; omega)⟩
theorem Jok{t:Int}{m:List (Int×Qb)}{l:List Int}{v:Int}(h:Nu (Qmi t m) l v)(hv:l.length≤v)(hk:A3 l m):Qoc t m:=⟨fun k=>⟨fun x hx=>(Qho h hv k (hk.on k x hx)).ok x hx⟩⟩
theorem Jta{t:Int}{m:List (Int×Qb)}{l:List Int}{k:Int}{C:Prop}(hk:k∈l)(hl:A3 l m)(h:Qoc t m)(h1:((Qh (k:=.int .i64) k m).getD Qqk).2.2.2.2.2.2.2.2.2.1=false)(h2:((Qh (k:=.int .i64) k m).getD Qqk).2.2.2.1≤t):C:=by
 obtain⟨x,hx⟩:=XQ.1 (hl.all k hk)
 rw[hx]at h1 h2
 simp only[XF]at h1 h2
 rcases(h.ok k).ok x hx with h | h
 ·rw[h]at h1; cases h1
 ·omega
theorem Jlz{l:List Q4}{i:Nat}{x y:Q4}(hx:l[i]?=some x)(hy:l[i]?=some y):l.set i (y.1,x.2)=l:=by
 rw[hx]at hy
 rw[←Option.some.inj hy]
 exact Fr hx rfl
theorem Jl0{l:List Jg}{i:Nat}{x y:Jg}(hx:l[i]?=some x)(hy:l[i]?=some y):l.set i (y.1,x.2)=l:=by
 rw[hx]at hy
 rw[←Option.some.inj hy]
 exact Fr hx rfl
theorem Jl1{l:List Y7}{i:Nat}{x y:Y7}(hx:l[i]?=some x)(hy:l[i]?=some y):l.set i (y.1,y.2.1,y.2.2.1,y.2.2.2.1,x.2.2.2.2)=l:=by
 rw[hx]at hy
 rw[←Option.some.inj hy]
 exact Fr hx rfl
theorem Jl2{l:List Ji}{i:Nat}{x y:Ji}(hx:l[i]?=some x)(hy:l[i]?=some y):l.set i (y.1,x.2.1,y.2.2)=l:=by
 rw[hx]at hy
 rw[←Option.some.inj hy]
 exact Fr hx rfl
theorem Jl3{l:List Yn}{i:Nat}{x y:Yn}(hx:l[i]?=some x)(hy:l[i]?=some y):l.set i (y.1,x.2.1,y.2.2.1,y.2.2.2.1,y.2.2.2.2.1,y.2.2.2.2.2)=l:=by
 rw[hx]at hy
 rw[←Option.some.inj hy]
 exact Fr hx rfl
theorem Jl4{l:List Qn}{i:Nat}{x y:Qn}(hx:l[i]?=some x)(hy:l[i]?=some y):l.set i (y.1,y.2.1,y.2.2.1,y.2.2.2.1,y.2.2.2.2.1,x.2.2.2.2.2)=l:=by
 rw[hx]at hy
 rw[←Option.some.inj hy]
 exact Fr hx rfl
theorem Jol{l:List Q2}{i:Nat}{x y:Q2}(hx:l[i]?=some x)(hy:l[i]?=some y):l.set i (y.1,y.2.1,y.2.2.1,y.2.2.2.1,x.2.2.2.2.1,y.2.2.2.2.2)=l:=by
 rw[hx]at hy
 rw[←Option.some.inj hy]
 exact Fr hx rfl
structure Q0g(l:List Ql):Prop where
 all:∀e∈l,(0≤e.1∧e.1<12622780800)∧∀a,l[0]?=some a→a.1≤e.1
structure Asc(l:List Ql)(v t:Int):Prop where
 lo:∀j:Nat,(j:Int)<v→∀e,l[j]?=some e→(0≤e.1∧e.1<12622780800)∧∀a,l[0]?=some a→a.1≤e.1
 hi:0<v→∀a,l[0]?=some a→a.1≤t
theorem Jl5{l:List Ql}:Asc l 0 0:=⟨fun j h=>by omega,fun h=>by omega⟩
theorem Jl6{l:List Ql}{v t:Int}{x:Ql}(h0:0≤v)(h:Asc l v t)(hx:l[v.toNat]?=some x)(p:0≤x.1)(p2:x.1<12622780800)(q:t≤x.1):Asc l (v+1) x.1:=by
 have key:∀a,l[0]?=some a→a.1≤x.1:=fun a ha=>by
  by_cases hv:0<v
  ·have:=h.hi hv a ha; omega
  ·have e:v.toNat=0:=by omega
   rw[e,ha]at hx
   cases Option.some.inj hx; exact JT _
 refine⟨fun j hj e he=>?_,fun _=>key⟩
 by_cases hv:(j:Int)<v
 ·exact h.lo j hv e he
 ·have e1:v.toNat=j:=by omega
  rw[e1,he]at hx
  cases Option.some.inj hx
  exact⟨⟨p,p2⟩,key⟩
theorem Jom{l:List Ql}{v t:Int}(h:Asc l v t)(hv:l.length≤v):Q0g l:=⟨fun e he=>by
 obtain⟨j,hj⟩:=List.mem_iff_getElem?.1 he
 exact h.lo j (by have:=(List.getElem?_eq_some_iff.1 hj).1; omega) e hj⟩
structure Qdw(l:List Ql)(t:Int):Prop where
 at_:∀a,l[0]?=some a→t<69120000∨t - 69120000<a.1
theorem Jgj{l:List Ql}{t:Int}{x:Ql}(hx:l[0]?=some x)(ht:¬t<69120000)(h:t≤9223372036854775807)(h1:x.1>IntKind.wrap .i64 (t - 69120000)):Qdw l t:=⟨fun a ha=>by
 rw[ha]at hx; cases Option.some.inj hx
 rw[Q8 (by omega) (by omega)]at h1
 exact .inr (by omega)⟩
theorem Qxv{l:List Ql}{t:Int}(ht:t<69120000):Qdw l t:=⟨fun a ha=>.inl ht⟩
theorem Qui{l:List Ql}{t:Int}(ht:l.length=0):Qdw l t:=⟨fun a ha=>by rw[QH ht]at ha; cases ha⟩
@[reducible,instance] def Q53{c7 cd ck cm d5 d6 d7 gk gm da}:=mkW (Ap.eq_1 N c7 cd ck cm d5 d6 d7 gk gm da) (True) (fun r=>r=true)
@[reducible,instance] def Qxw{ca cg ci c7 cd}:=mkW (Uc.eq_1 N ca cg ci c7 cd) (True) (fun r=>r=true)
@[reducible,instance] def Qxx{ca cj c7}:=mkW (Gt.eq_1 N ca cj c7) (True) (fun r=>r=(true,ca,cj,c7))
@[reducible,instance] def Qxy{ca cj c7}:=mkW (J4.eq_1 N ca cj c7) (True) (fun r=>r=true)
@[reducible,instance] def Jgk{x0 x1}:=mkW (Yb.eq_1 N x0 x1) (True) (fun r=>r=(x0.1,x0.2.1,0,0,x1))
@[reducible,instance] def Qxz{ce}:=mkW (Kf.eq_1 N ce) (True) (fun r=>r=ce)
@[reducible,instance] def Qvh[Y0]{x1 ca cj c7}:=mkW (W6.eq_1 N x1 ca cj c7) (Di ca∧Qu (fun m:Ql=>Aft m.1) ca.1∧cj.1.length≤900000000000∧sz cj.1≤1000000000000∧cj.2.1.length≤1000000000∧cj.2.2.length≤1000000000∧Sh.sh x1.2.2.2.2.2.2.1∧List.length x1.2.2.2.2.2.2.1≤9223372036854775807∧(0<ca.1.length→x1.2.2.2.1<12622780800→x1.2.2.2.1<Y0.hi)∧Qu Ue c7∧c7.length≤1000000000∧Ho x1.1=true∧Qh (k:=.int .i64) x1.1 c7=none) (fun r=>r.2.1=ca∧r.2.2.1.length≤cj.1.length+11468800000∧sz r.2.2.1≤1000000000000∧r.2.2.2.2.2.length≤cj.2.1.length+1∧r.2.2.2.1=cj.2.2∧Qu Ue r.2.2.2.2.1∧r.2.2.2.2.1.length≤c7.length+1∧((r.2.2.1=cj.1∧r.2.2.2.2.2=cj.2.1∧r.2.2.2.1=cj.2.2∧r.2.2.2.2.1=c7)∨(Qkk r.2.2.2.2.1 x1.1 x1.2.1 r.1))) (k:=by
  intro h
  have g0:=h.1.ev; have g1:=h.1.tarL; have g2:=h.1.tarS; have g3:=h.1.tarO; have g4:=h.1.prodL; have g5:=h.1.prodS; have g6:=h.1.prodO; have g7:=h.1.hol
  try simp only[sS,reduceCtorEq]at *
  repeat' (first | intro _ | apply And.intro)
  all_goals first | ((repeat cases ‹_∧_›); first | assumption | omega | exact Az (by assumption) | exact A1 (by assumption) | (rw[Q51 (by assumption)]; first | assumption | omega | (refine .inl ?_; grind)) | exact QW Qmh (by omega) | (have k:=(Qmh:(Qz (k:=.int .i64) _ _ _:List (Int×Qb)).length≤_); omega) | (refine Q50 (by assumption) ⟨by assumption,?_,?_,?_⟩<;>(dsimp only; first | assumption | omega | grind)) | (refine Qdv (by assumption) ⟨by assumption,?_,?_,?_⟩<;>(dsimp only; first | assumption | omega | grind)) | (refine .inr ?_; rw[Eb,Eb]; refine Qg8 ?_ ?_<;>(dsimp only; grind)) | (simp only[*]; first | done | assumption | omega) | grind) | exact lv)
@[reducible,instance] def Qvi[Y0]{x1 ca cg ci c7 cd}:=mkW (Zf.eq_1 N x1 ca cg ci c7 cd) (Di ca∧Qu (fun m:Ql=>Aft m.1) ca.1∧cg.length≤900000000000∧sz cg≤1000000000000∧c7.length≤1000000000∧ci.length≤1000000000∧Sh.sh x1.2.2.2.2.2.2.1∧List.length x1.2.2.2.2.2.2.1≤9223372036854775807∧(0<ca.1.length→x1.2.2.2.1<12622780800→x1.2.2.2.1<Y0.hi)∧Qu Ue cd∧cd.length≤1000000000∧Ho x1.1=true∧Qh (k:=.int .i64) x1.1 cd=none) (fun r=>r.2.1=ca∧r.2.2.1.length≤cg.length+11468800000∧sz r.2.2.1≤1000000000000∧r.2.2.2.2.2.length≤c7.length+1∧r.2.2.2.1=ci∧Qu Ue r.2.2.2.2.1∧r.2.2.2.2.1.length≤cd.length+1∧((r.2.2.1=cg∧r.2.2.2.2.2=c7∧r.2.2.2.1=ci∧r.2.2.2.2.1=cd)∨(Qkk r.2.2.2.2.1 x1.1 x1.2.1 r.1))) (k:=by
  intro h
  have g0:=h.1.ev; have g1:=h.1.tarL; have g2:=h.1.tarS; have g3:=h.1.tarO; have g4:=h.1.prodL; have g5:=h.1.prodS; have g6:=h.1.prodO; have g7:=h.1.hol
  try simp only[sS,reduceCtorEq]at *
  repeat' (first | intro _ | apply And.intro)
  all_goals first | ((repeat cases ‹_∧_›); first | assumption | omega | exact Az (by assumption) | exact A1 (by assumption) | (rw[Q51 (by assumption)]; first | assumption | omega | (refine .inl ?_; grind)) | exact QW Qmh (by omega) | (have k:=(Qmh:(Qz (k:=.int .i64) _ _ _:List (Int×Qb)).length≤_); omega) | (refine Q50 (by assumption) ⟨by assumption,?_,?_,?_⟩<;>(dsimp only; first | assumption | omega | grind)) | (refine Qdv (by assumption) ⟨by assumption,?_,?_,?_⟩<;>(dsimp only; first | assumption | omega | grind)) | (refine .inr ?_; rw[Eb,Eb]; refine Qg8 ?_ ?_<;>(dsimp only; grind)) | (simp only[*]; first | done | assumption | omega) | grind) | exact lv)
@[reducible,instance] def Qe1[Y0]{x1 ca cj c7}:=mkW (Jn.eq_1 N x1 ca cj c7) (Di ca∧Qu (fun m:Ql=>Aft m.1) ca.1∧cj.1.length≤900000000000∧sz cj.1≤1000000000000∧cj.2.1.length≤1000000000∧cj.2.2.length≤1000000000∧Sh.sh x1.2.2.2.2.2.2.1∧List.length x1.2.2.2.2.2.2.1≤9223372036854775807∧(0<ca.1.length→x1.2.2.2.1<12622780800→x1.2.2.2.1<Y0.hi)∧Qu Ue c7∧c7.length≤1000000000∧Ho x1.1=true) (fun r=>r.2.1=ca∧r.2.2.1.length≤cj.1.length+11468800000∧sz r.2.2.1≤1000000000000∧r.2.2.2.1.length≤cj.2.1.length+1∧r.2.2.2.2.1=cj.2.2∧Qu Ue r.2.2.2.2.2∧r.2.2.2.2.2.length≤c7.length+1∧((r.2.2.1=cj.1∧r.2.2.2.1=cj.2.1∧r.2.2.2.2.1=cj.2.2∧r.2.2.2.2.2=c7)∨(1≤x1.2.2.1∧x1.2.2.1≤4∧Qkk r.2.2.2.2.2 x1.1 x1.2.1 r.1))) (k:=by
  intro h
  have g0:=h.1.ev; have g1:=h.1.tarL; have g2:=h.1.tarS; have g3:=h.1.tarO; have g4:=h.1.prodL; have g5:=h.1.prodS; have g6:=h.1.prodO; have g7:=h.1.hol
  try simp only[sS,reduceCtorEq]at *
  repeat' (first | intro _ | apply And.intro)
  all_goals first | assumption | omega | exact QW Ua (by omega) | exact Or.inl trivial | ((repeat cases ‹_∧_›); first | assumption | exact Q0d (by assumption) | exact Az (by assumption) | exact A1 (by assumption) | exact Gi _ _ _ | (have k1:=(Q0e (by assumption) (by assumption)).id; dsimp only at k1; refine Qdv (by assumption) ⟨by assumption,?_,?_,?_⟩<;>dsimp only<;>first | assumption | (exact Eq.trans (by assumption) k1) | omega) | (rcases ‹_∨_› with hh | hh<;>(repeat cases ‹_∧_›)<;>first | exact .inl ⟨by assumption,by assumption,by assumption,by assumption⟩ | exact .inr ⟨by omega,by omega,by assumption⟩ | (refine .inl ⟨?_,?_,?_,Q0f (by assumption) (by assumption)⟩<;>assumption) | (refine .inr ⟨?_,?_,Qg8 ?_ ?_⟩<;>first | omega | (dsimp only; assumption) | (dsimp only; exact Eq.symm (by assumption)))) | omega) | exact lv)
@[reducible,instance] def Q1n[Y0]{x1 ca cg ci c7 cd}:=mkW (E8.eq_1 N x1 ca cg ci c7 cd) (Di ca∧Qu (fun m:Ql=>Aft m.1) ca.1∧cg.length≤900000000000∧sz cg≤1000000000000∧c7.length≤1000000000∧ci.length≤1000000000∧Sh.sh x1.2.2.2.2.2.2.1∧List.length x1.2.2.2.2.2.2.1≤9223372036854775807∧(0<ca.1.length→x1.2.2.2.1<12622780800→x1.2.2.2.1<Y0.hi)∧Qu Ue cd∧cd.length≤1000000000∧Ho x1.1=true) (fun r=>r.2.1=ca∧r.2.2.1.length≤cg.length+11468800000∧sz r.2.2.1≤1000000000000∧r.2.2.2.2.2.length≤c7.length+1∧r.2.2.2.1=ci∧Qu Ue r.2.2.2.2.1∧r.2.2.2.2.1.length≤cd.length+1∧((r.2.2.1=cg∧r.2.2.2.2.2=c7∧r.2.2.2.1=ci∧r.2.2.2.2.1=cd)∨(1≤x1.2.2.1∧x1.2.2.1≤4∧Qkk r.2.2.2.2.1 x1.1 x1.2.1 r.1))) (k:=by
  intro h
  have g0:=h.1.ev; have g1:=h.1.tarL; have g2:=h.1.tarS; have g3:=h.1.tarO; have g4:=h.1.prodL; have g5:=h.1.prodS; have g6:=h.1.prodO; have g7:=h.1.hol
  try simp only[sS,reduceCtorEq]at *
  repeat' (first | intro _ | apply And.intro)
  all_goals first | assumption | omega | exact QW Ua (by omega) | exact Or.inl trivial | ((repeat cases ‹_∧_›); first | assumption | exact Q0d (by assumption) | exact Az (by assumption) | exact A1 (by assumption) | exact Gi _ _ _ | (have k1:=(Q0e (by assumption) (by assumption)).id; dsimp only at k1; refine Qdv (by assumption) ⟨by assumption,?_,?_,?_⟩<;>dsimp only<;>first | assumption | (exact Eq.trans (by assumption) k1) | omega) | (rcases ‹_∨_› with hh | hh<;>(repeat cases ‹_∧_›)<;>first | exact .inl ⟨by assumption,by assumption,by assumption,by assumption⟩ | exact .inr ⟨by omega,by omega,by assumption⟩ | (refine .inl ⟨?_,?_,?_,Q0f (by assumption) (by assumption)⟩<;>assumption) | (refine .inr ⟨?_,?_,Qg8 ?_ ?_⟩<;>first | omega | (dsimp only; assumption) | (dsimp only; exact Eq.symm (by assumption)))) | omega) | exact lv)
@[reducible,instance] def Q1o[Y0]{x1 ca cg ci c7 cd}:=mkW (Xl.eq_1 N x1 ca cg ci c7 cd) (Di ca∧Qu (fun m:Ql=>Aft m.1) ca.1∧cg.length≤900000000000∧sz cg≤1000000000000∧c7.length≤1000000000∧ci.length≤1000000000∧Sh.sh x1.2.2.2.2.2.2.1∧List.length x1.2.2.2.2.2.2.1≤9223372036854775807∧(0<ca.1.length→x1.2.2.2.1<12622780800→x1.2.2.2.1<Y0.hi)∧Qu Ue cd∧cd.length≤1000000000∧Ho x1.1=true) (fun r=>r.2.1=ca∧r.2.2.1.length≤cg.length+11468800000∧sz r.2.2.1≤1000000000000∧r.2.2.2.2.2.length≤c7.length+1∧r.2.2.2.1=ci∧Qu Ue r.2.2.2.2.1∧r.2.2.2.2.1.length≤cd.length+1∧((r.2.2.1=cg∧r.2.2.2.2.2=c7∧r.2.2.2.1=ci∧r.2.2.2.2.1=cd)∨(1≤x1.2.2.1∧x1.2.2.1≤4∧Qkk r.2.2.2.2.1 x1.1 x1.2.1 r.1))) (k:=by
  intro h
  have g0:=h.1.ev; have g1:=h.1.tarL; have g2:=h.1.tarS; have g3:=h.1.tarO; have g4:=h.1.prodL; have g5:=h.1.prodS; have g6:=h.1.prodO; have g7:=h.1.hol
  try simp only[sS,reduceCtorEq]at *
  repeat' (first | intro _ | apply And.intro)
  all_goals first | assumption | omega | exact QW Ua (by omega) | exact Or.inl trivial | ((repeat cases ‹_∧_›); first | assumption | exact Q0d (by assumption) | exact Az (by assumption) | exact A1 (by assumption) | exact Gi _ _ _ | (have k1:=(Q0e (by assumption) (by assumption)).id; dsimp only at k1; refine Qdv (by assumption) ⟨by assumption,?_,?_,?_⟩<;>dsimp only<;>first | assumption | (exact Eq.trans (by assumption) k1) | omega) | (rcases ‹_∨_› with hh | hh<;>(repeat cases ‹_∧_›)<;>first | exact .inl ⟨by assumption,by assumption,by assumption,by assumption⟩ | exact .inr ⟨by omega,by omega,by assumption⟩ | (refine .inl ⟨?_,?_,?_,Q0f (by assumption) (by assumption)⟩<;>assumption) | (refine .inr ⟨?_,?_,Qg8 ?_ ?_⟩<;>first | omega | (dsimp only; assumption) | (dsimp only; exact Eq.symm (by assumption)))) | omega) | exact lv)
@[reducible,instance] def Qx0{ca cg ci c7 cd}:=mkW (Gs.eq_1 N ca cg ci c7 cd) (Qu Ue cd∧cd.length≤1000000100) (fun r=>r.1.length≤1000000100∧A3 r.1 cd∧r.2=cd) (k:=by
  intro h
  try simp only[sS,reduceCtorEq]at *
  repeat' (first | intro _ | apply And.intro)
  all_goals first | ((repeat cases ‹_∧_›); first | assumption | omega | exact Uz (by assumption) | exact Uz (by assumption) _ (by assumption) | exact J6 _ | exact(J6 _).len▸(by assumption) | exact Ye | exact Az (by assumption) | exact A1 (by assumption) | exact V4 | exact Eq.trans (by assumption) (by assumption)  | (simp only[*]; first | done | assumption)) | exact lv)
@[reducible,instance] def Quj{ca cj c7}:=mkW (Yw.eq_1 N ca cj c7) (Qu Ue c7∧c7.length≤1000000100) (fun r=>r.1.length≤1000000100∧A3 r.1 c7∧r.2=c7) (k:=by
  intro h
  try simp only[sS,reduceCtorEq]at *
  repeat' (first | intro _ | apply And.intro)
  all_goals first | ((repeat cases ‹_∧_›); first | assumption | omega | exact Uz (by assumption) | exact Uz (by assumption) _ (by assumption) | exact J6 _ | exact(J6 _).len▸(by assumption) | exact Ye | exact Az (by assumption) | exact A1 (by assumption) | exact V4 | exact Eq.trans (by assumption) (by assumption)  | (simp only[*]; first | done | assumption)) | exact lv)
@[reducible,instance] def Q54{x0}:=mkW (W0.eq_1 N x0) (x0.2.2.2.2.2.2.1.length≤1000000000000∧x0.2.2.2.2.1.2.2.2.2.2.2.1.2.2.2.2.length≤4096) (fun r=>r=(x0.1,x0.2.1,x0.2.2.1,x0.2.2.2.1,x0.2.2.2.2.1.1,x0.2.2.2.2.1.2.1,x0.2.2.2.2.1.2.2.1,x0.2.2.2.2.1.2.2.2.1,x0.2.2.2.2.1.2.2.2.2.1,x0.2.2.2.2.1.2.2.2.2.2.1,x0.2.2.2.2.1.2.2.2.2.2.2.1.1,x0.2.2.2.2.1.2.2.2.2.2.2.1.2.1,x0.2.2.2.2.1.2.2.2.2.2.2.1.2.2.1,x0.2.2.2.2.1.2.2.2.2.2.2.1.2.2.2.1,x0.2.2.2.2.1.2.2.2.2.2.2.2.1,x0.2.2.2.2.1.2.2.2.2.2.2.2.2,x0.2.2.2.2.2.1,x0.2.2.2.2.2.2.2.1,x0.2.2.2.2.2.2.2.2.1,x0.2.2.2.2.2.2.2.2.2.1,x0.2.2.2.2.2.2.2.2.2.2,x0.2.2.2.2.1.2.2.2.2.2.2.1.2.2.2.2,x0.2.2.2.2.2.2.1))
@[reducible,instance] def Qap{ca cj c7}:=mkW (Yo.eq_1 N ca cj c7) (sz cj.1≤1000000000000∧cj.2.1.length≤1000000000000∧cj.2.2.length≤1000000000000) (fun r=>r=cj)
@[reducible,instance] def Qod{r2 r3}{s}:=upL (N:=N) (s:=s) (Gg.eq_def N r2 r3) (fun t=>t.1) r2.length (fun t=>r2.length≤1000000100∧A3 r2 r3∧Qu Ue r3∧r3.length≤1000000100∧t.2.length≤t.1∧Qu (fun x:Qb=>Qh (k:=.int .i64) x.1 r3=some x) t.2) (fun r:(((List Qb)))=>Qu (fun x:Qb=>Qh (k:=.int .i64) x.1 r3=some x) r∧r.length≤1000000100) (step:=by
  intro s h h0 h1 h2 hw
  try simp only[sS,reduceCtorEq]at *
  repeat' (first | intro _ | apply And.intro)
  all_goals first | ((repeat cases ‹_∧_›); first | assumption | omega | exact Uz (by assumption) | exact Uz (by assumption) _ (by assumption) | exact J6 _ | exact(J6 _).len▸(by assumption) | exact Ye | exact Az (by assumption) | exact A1 (by assumption) | exact V4 | exact Eq.trans (by assumption) (by assumption) | exact Ud (by assumption) (K7 (Q52 ((by assumption:A3 _ _).all _ (by assumption)) (by assumption))) | (simp only[*]; first | done | assumption)) | exact lv)
@[reducible,instance] def Oa{ca cj c7}:=mkW (J7.eq_1 N ca cj c7) (Qu Ue c7∧c7.length≤1000000100) (fun r=>r.1=c7∧Qu (fun x:Qb=>Qh (k:=.int .i64) x.1 c7=some x) r.2∧r.2.length≤1000000100) (k:=by
  intro h
  try simp only[sS,reduceCtorEq]at *
  repeat' (first | intro _ | apply And.intro)
  all_goals first | ((repeat cases ‹_∧_›); first | assumption | omega | exact Uz (by assumption) | exact Uz (by assumption) _ (by assumption) | exact J6 _ | exact(J6 _).len▸(by assumption) | exact Ye | exact Az (by assumption) | exact A1 (by assumption) | exact V4 | exact Eq.trans (by assumption) (by assumption)  | (simp only[*]; first | done | assumption)) | exact lv)
@[reducible,instance] def Qq5{r5 r6}{s}:=upL (N:=N) (s:=s) (Ew.eq_def N r5 r6) (fun t=>t.1) r5.length (fun t=>r5.length≤1000000100∧A3 r5 r6∧Qu Ue r6∧r6.length≤1000000100∧t.2.length≤t.1∧Qu (fun x:Qb=>Qh (k:=.int .i64) x.1 r6=some x) t.2) (fun r:(((List Qb)))=>Qu (fun x:Qb=>Qh (k:=.int .i64) x.1 r6=some x) r∧r.length≤1000000100) (step:=by
  intro s h h0 h1 h2 hw
  try simp only[sS,reduceCtorEq]at *
  repeat' (first | intro _ | apply And.intro)
  all_goals first | ((repeat cases ‹_∧_›); first | assumption | omega | exact Uz (by assumption) | exact Uz (by assumption) _ (by assumption) | exact J6 _ | exact(J6 _).len▸(by assumption) | exact Ye | exact Az (by assumption) | exact A1 (by assumption) | exact V4 | exact Eq.trans (by assumption) (by assumption) | exact Ud (by assumption) (K7 (Q52 ((by assumption:A3 _ _).all _ (by assumption)) (by assumption))) | (simp only[*]; first | done | assumption)) | exact lv)
@[reducible,instance] def Qvj{ca cg jf ci c7}:=mkW (W5.eq_1 N ca cg jf ci c7) (Qu Ue c7∧c7.length≤1000000100) (fun r=>r.1=ca∧r.2.1=(cg,jf,ci)∧r.2.2.1=c7∧Qu (fun x:Qb=>Qh (k:=.int .i64) x.1 c7=some x) r.2.2.2∧r.2.2.2.length≤1000000100) (k:=by
  intro h
  try simp only[sS,reduceCtorEq]at *
  repeat' (first | intro _ | apply And.intro)
  all_goals first | ((repeat cases ‹_∧_›); first | assumption | omega | exact Uz (by assumption) | exact Uz (by assumption) _ (by assumption) | exact J6 _ | exact(J6 _).len▸(by assumption) | exact Ye | exact Az (by assumption) | exact A1 (by assumption) | exact V4 | exact Eq.trans (by assumption) (by assumption)  | (simp only[*]; first | done | assumption)) | exact lv)
@[reducible,instance] def Qql{r2 x1}{s}:=upL (N:=N) (s:=s) (H3.eq_def N r2 x1) (fun t=>t.1) r2.length (fun t=>r2.length≤1000000100∧A3 r2 t.2.2.2.1∧Qu Ue t.2.2.2.1∧t.2.2.2.1.length≤1000000100∧t.2.1=s.2.1∧t.2.2.2.2.length≤t.1∧sz t.2.2.1.1≤1000000000000∧t.2.2.1.1.length≤s.2.2.1.1.length∧t.2.2.1.2.1.length=s.2.2.1.2.1.length∧t.2.2.1.2.2=s.2.2.1.2.2∧s.2.2.1.1.length≤900000000000∧s.2.2.1.2.1.length≤1000000000∧s.2.2.1.2.2.length≤1000000000∧t.2.2.2.1.length=s.2.2.2.1.length∧Nu (Qmi x1 t.2.2.2.1) r2 t.1) (fun r:((Qt×Qr×(List (Int×Qb))×(List Int)))=>r.1=s.2.1∧sz r.2.1.1≤1000000000000∧r.2.1.1.length≤s.2.2.1.1.length∧r.2.1.2.1.length=s.2.2.1.2.1.length∧r.2.1.2.2=s.2.2.1.2.2∧Qu Ue r.2.2.1∧r.2.2.1.length=s.2.2.2.1.length∧Qoc x1 r.2.2.1∧r.2.2.2.length≤1000000100) (step:=by
  intro s h h0 h1 h2 hw
  try simp only[sS,reduceCtorEq]at *
  repeat' (first | intro _ | apply And.intro)
  all_goals first | ((repeat cases ‹_∧_›); first | assumption | omega | exact Uz (by assumption) | exact Uz (by assumption) _ (by assumption) | exact J6 _ | exact(J6 _).len▸(by assumption) | exact Ye | exact Az (by assumption) | exact A1 (by assumption) | exact V4 | exact Eq.trans (by assumption) (by assumption) | exact Q96 (by assumption) (by assumption) | (rw[hw (by assumption)]; exact Joj h0 (by assumption) (by assumption) (by assumption)) | (rw[hw (by assumption)]; exact Jly h0 (by assumption) (by assumption) (by assumption)) | exact Jok (by assumption) (by omega) (by assumption) | (rw[Qxu ((by assumption:A3 _ _).all _ (by assumption))]; assumption) | (have k1:=(Q95 ((by assumption:A3 _ _).all _ (by assumption)) (by assumption)); have k2:=k1.id; dsimp only at k2; refine Qdv (by assumption) ⟨k1.key,?_,?_,?_⟩<;>dsimp only<;>first | assumption | (exact Eq.trans (by assumption) k2)) | (simp only[*]; first | done | assumption)) | exact lv)
@[reducible,instance] def R7{x1 ca cj c7}:=mkW (Y5.eq_1 N x1 ca cj c7) (Qu Ue c7∧c7.length≤1000000000∧cj.1.length≤900000000000∧sz cj.1≤1000000000000∧cj.2.1.length≤1000000000∧cj.2.2.length≤1000000000) (fun r=>r.1=ca∧sz r.2.1.1≤1000000000000∧r.2.1.1.length≤cj.1.length∧r.2.1.2.1.length=cj.2.1.length∧r.2.1.2.2=cj.2.2∧Qu Ue r.2.2.1∧r.2.2.1.length=c7.length∧Qoc x1 r.2.2.1∧r.2.2.2.length≤1000000100) (k:=by
  intro h
  try simp only[sS,reduceCtorEq]at *
  repeat' (first | intro _ | apply And.intro)
  all_goals first | ((repeat cases ‹_∧_›); first | assumption | omega | exact Uz (by assumption) | exact Uz (by assumption) _ (by assumption) | exact J6 _ | exact(J6 _).len▸(by assumption) | exact Ye | exact Az (by assumption) | exact A1 (by assumption) | exact V4 | exact Eq.trans (by assumption) (by assumption)  | (simp only[*]; first | done | assumption)) | exact lv)
@[reducible,instance] def Qqm{r2 x1}{s}:=upL (N:=N) (s:=s) (H4.eq_def N r2 x1) (fun t=>t.1) r2.length (fun t=>r2.length≤1000000100∧A3 r2 t.2.2.2.1∧Qu Ue t.2.2.2.1∧t.2.2.2.1.length≤1000000100∧t.2.1=s.2.1∧Qoc x1 t.2.2.2.1∧t.2.2.1=s.2.2.1∧t.2.2.2.1=s.2.2.2.1∧t.2.2.2.2=[]) (fun r:((Qt×Qr×(List (Int×Qb))×(List Int)))=>r=(s.2.1,s.2.2.1,s.2.2.2.1,[])) (step:=by
  intro s h h0 h1 h2 hw
  try simp only[sS,reduceCtorEq]at *
  repeat' (first | intro _ | apply And.intro)
  all_goals first | ((repeat cases ‹_∧_›); first | assumption | omega | exact Uz (by assumption) | exact Uz (by assumption) _ (by assumption) | exact J6 _ | exact(J6 _).len▸(by assumption) | exact Ye | exact Az (by assumption) | exact A1 (by assumption) | exact V4 | exact Eq.trans (by assumption) (by assumption) | exact Jta (by assumption) (by assumption) (by assumption) (by assumption) (by assumption) | (simp only[*]; first | done | assumption)) | exact lv)
@[reducible,instance] def R8{x1 ca cj c7}:=mkW (Ux.eq_1 N x1 ca cj c7) (Qu Ue c7∧c7.length≤1000000000∧cj.1.length≤900000000000∧sz cj.1≤1000000000000∧cj.2.1.length≤1000000000∧cj.2.2.length≤1000000000∧Qoc x1 c7) (fun r=>r=(ca,cj,c7,[])) (k:=by
  intro h
  try simp only[sS,reduceCtorEq]at *
  repeat' (first | intro _ | apply And.intro)
  all_goals first | ((repeat cases ‹_∧_›); first | assumption | omega | exact Uz (by assumption) | exact Uz (by assumption) _ (by assumption) | exact J6 _ | exact(J6 _).len▸(by assumption) | exact Ye | exact Az (by assumption) | exact A1 (by assumption) | exact V4 | exact Eq.trans (by assumption) (by assumption)  | (simp only[*]; first | done | assumption)) | exact lv)
@[reducible,instance] def Qus{x0 x1}{s}:=upL (N:=N) (s:=s) (Bg.eq_def N x0 x1) (fun t=>t) x0.2.2.2.2.2.1.length (fun t=>x0.2.2.2.2.2.1.length=x1.2.2.2.2.2.1.length∧x0.2.2.2.2.2.1.length≤9223372036854775807) (fun r:((Unit)⊕(Bool))=>∀u,r=.inr u→x0≠x1)
@[reducible,instance] def Q0h{x0 x1}:=mkW (H2.eq_1 N x0 x1) (sz x0≤9223372036854775807) (fun r=>x0=x1→r=true)
@[reducible,instance] def Q0i{x0 x1}{s}:=upL (N:=N) (s:=s) (Lo.eq_def N x0 x1) (fun t=>t) x0.length (fun t=>x0.length=x1.length∧x0.length≤9223372036854775807∧sz x0≤9223372036854775807) (fun r:((Unit)⊕(Bool))=>∀u,r=.inr u→x0≠x1)
@[reducible,instance] def Q7j{x0 x1}:=mkW (Cg.eq_1 N x0 x1) (sz x0≤9223372036854775807) (fun r=>x0=x1→r=true)
@[reducible,instance] def Q0j{x0 x1}{s}:=upL (N:=N) (s:=s) (Lp.eq_def N x0 x1) (fun t=>t) x0.2.1.length (fun t=>x0.2.1.length=x1.2.1.length∧x0.2.1.length≤9223372036854775807) (fun r:((Unit)⊕(Bool))=>∀u,r=.inr u→x0≠x1)
@[reducible,instance] def Q0k{x0 x1}{s}:=upL (N:=N) (s:=s) (Lq.eq_def N x0 x1) (fun t=>t) x0.2.2.length (fun t=>x0.2.2.length=x1.2.2.length∧x0.2.2.length≤9223372036854775807) (fun r:((Unit)⊕(Bool))=>∀u,r=.inr u→x0≠x1)
@[reducible,instance] def Qim{x0 x1}:=mkW (Uw.eq_1 N x0 x1) (sz x0≤9223372036854775807) (fun r=>x0=x1→r=true)
@[reducible,instance] def Q0l{x0 x1}{s}:=upL (N:=N) (s:=s) (Lr.eq_def N x0 x1) (fun t=>t) x0.2.2.2.2.2.2.1.2.2.2.2.length (fun t=>x0.2.2.2.2.2.2.1.2.2.2.2.length=x1.2.2.2.2.2.2.1.2.2.2.2.length∧x0.2.2.2.2.2.2.1.2.2.2.2.length≤9223372036854775807) (fun r:((Unit)⊕(Bool))=>∀u,r=.inr u→x0≠x1)
@[reducible,instance] def Q7k{x0 x1}:=mkW (Hb.eq_1 N x0 x1) (sz x0≤9223372036854775807) (fun r=>x0=x1→r=true)
@[reducible,instance] def Qq6{x0 x1}{s}:=upL (N:=N) (s:=s) (Ey.eq_def N x0 x1) (fun t=>t) x0.length (fun t=>x0.length=x1.length∧x0.length≤9223372036854775807) (fun r:((Unit)⊕(Bool))=>∀u,r=.inr u→x0≠x1)
@[reducible,instance] def Qvk{x0 x1}:=mkW (Zg.eq_1 N x0 x1) (sz x0≤9223372036854775807) (fun r=>x0=x1→r=true)
@[reducible,instance] def Q7l{x0 x1:Qb}:WP (Hc N x0 x1) (fun R=>(sz x0≤9223372036854775807)∧∀r,(x0=x1→r=true)→R r):=Qg3 (by
  intro h
  have hz:=h
  simp only[sz1,mx1]at hz
  obtain⟨a,ea,ha⟩:=(inferInstance:WP (Hb N x0.2.2.2.2.1 x1.2.2.2.2.1) _).spec _ ⟨by simp only[sz1,mx1]; omega,fun r h=>h⟩
  obtain⟨b,eb,hb⟩:=(inferInstance:WP (Zg N x0.2.2.2.2.2.2.1 x1.2.2.2.2.2.2.1) _).spec _ ⟨by simp only[sz1,mx1]; omega,fun r h=>h⟩
  unfold Hc
  rw[ea,eb]
  by_cases e:x0=x1
  ·subst e
   rw[ha rfl,hb rfl]
   exact⟨true,by simp,fun _=>rfl⟩
  ·simp only[QY]
   split<;>simp only[QY]<;>split<;>exact⟨_,rfl,fun h=>absurd h e⟩)
@[reducible,instance] def Qoe{x0 x1}{s}:=upL (N:=N) (s:=s) (Gh.eq_def N x0 x1) (fun t=>t) x0.length (fun t=>x0.length=x1.length∧x0.length≤9223372036854775807∧sz x0≤9223372036854775807) (fun r:((Unit)⊕(Bool))=>∀u,r=.inr u→x0≠x1)
@[reducible,instance] def Oc{x0 x1}:=mkW (Ub.eq_1 N x0 x1) (sz x0≤9223372036854775807) (fun r=>x0=x1→r=true)
@[reducible,instance] def Q0m{x0 x1}{s}:=upL (N:=N) (s:=s) (Ln.eq_def N x0 x1) (fun t=>t) x0.length (fun t=>x0.length=x1.length∧x0.length≤9223372036854775807) (fun r:((Unit)⊕(Bool))=>∀u,r=.inr u→x0≠x1)
@[reducible,instance] def Qin{x0 x1}:=mkW (Ha.eq_1 N x0 x1) (sz x0≤9223372036854775807) (fun r=>x0=x1→r=true)
@[reducible,instance] def Q7m{x0}:=mkW (Gy.eq_1 N x0) (True) (fun r=>r.length=5∧(∀b,r[0]?=some b→(b=true↔(x0=1∨x0=2∨x0=3∨x0=14∨x0=15))))
@[reducible,instance] def Jdh{x0}:=mkW (Ft.eq_1 N x0) (True) (fun r=>True)
@[reducible,instance] def Q0n{x0}{s}:=upL (N:=N) (s:=s) (I2.eq_def N x0) (fun t=>t) x0.length (fun t=>Sh.sh x0) (fun r:((Unit)⊕(Bool))=>True) (fun _ h=>Qg5 (by grind))
@[reducible,instance] def Q7n{x0}:=mkW (Uv.eq_1 N x0) (Sh.sh x0) (fun r=>True)
@[reducible,instance] def Qx1{x0}{s}:=upL (N:=N) (s:=s) (Cu.eq_def N x0) (fun t=>t) x0.length (fun t=>Sh.sh x0) (fun r:((Unit)⊕(Bool))=>True) (fun _ h=>Qg5 (by grind))
@[reducible,instance] def Q55{x0}:=mkW (Wn.eq_1 N x0) (Sh.sh x0) (fun r=>True)
@[reducible,instance] def Q56{x0}:=mkW (F3.eq_1 N x0) (True) (fun r=>True)
@[reducible,instance] def Q7o{x0 x1}:=mkW (Bz.eq_1 N x0 x1) (Sh.sh x0) (fun r=>r=0→0≤x0.1∧x0.1<12622780800∧x1≤x0.1)
@[reducible,instance] def Qut{x0 x1}{s}:=Qma (N:=N) (s:=s) (A9.eq_def N x0 x1) x0.1 (sz x0≤9223372036854775807) (fun y=>y.1≠x1) (∀y∈x0.1,y.1≠x1) (fun u=>0≤u∧u<x0.1.length∧∃a∈x0.1,a.1=x1)
@[reducible,instance] def Q0o{x0 x1}:=mkW (K0.eq_1 N x0 x1) (sz x0≤9223372036854775807) (fun r => -1≤r∧r<x0.1.length∧(0≤r→∃a∈x0.1,a.1=x1)∧(r<0→∀a∈x0.1,a.1≠x1))
@[reducible,instance] def Q1p{x0 x1}{s}:=Qma (N:=N) (s:=s) (M3.eq_def N x0 x1) x0.2.1 (sz x0≤9223372036854775807) (fun y=>y.1≠x1) (∀y∈x0.2.1,y.1≠x1) (fun u=>0≤u∧u<x0.2.1.length∧∃a∈x0.2.1,a.1=x1)
@[reducible,instance] def Q97{x0 x1}:=mkW (Xv.eq_1 N x0 x1) (sz x0≤9223372036854775807) (fun r => -1≤r∧r<x0.2.1.length∧(0≤r→∃a∈x0.2.1,a.1=x1)∧(r<0→∀a∈x0.2.1,a.1≠x1))
@[reducible,instance] def Qx2{x0 x1}{s}:=upL (N:=N) (s:=s) (Cv.eq_def N x0 x1) (fun t=>t) x0.2.2.length (fun t=>sz x0≤9223372036854775807) (fun r:((Unit)⊕(Bool))=>True)
@[reducible,instance] def Q57{x0 x1}:=mkW (Wo.eq_1 N x0 x1) (sz x0≤9223372036854775807) (fun r=>True)
@[reducible,instance] def Q0p{x0 x1}{s}:=upL (N:=N) (s:=s) (I3.eq_def N x0 x1) (fun t=>t) x0.2.1.length (fun t=>sz x0≤9223372036854775807) (fun r:((Unit)⊕(Bool))=>True)
@[reducible,instance] def Q7p{x0 x1}:=mkW (B1.eq_1 N x0 x1) (sz x0≤9223372036854775807) (fun r=>True)
@[reducible,instance] def Qvl{x0 x1}:=mkW (Wp.eq_1 N x0 x1) (sz x0≤9223372036854775807) (fun r=>r=0→x1.2.1≠1→∃a∈x0.1,a.1=x1.2.2.1)
@[reducible,instance] def Q1q{x0 x1}{s}:=upL (N:=N) (s:=s) (M4.eq_def N x0 x1) (fun t=>t) x0.length (fun t=>sz x0≤9223372036854775807) (fun r:((Unit)⊕(Bool))=>True)
@[reducible,instance] def Q98{x0 x1}:=mkW (Zp.eq_1 N x0 x1) (sz x0≤9223372036854775807) (fun r=>True)
@[reducible,instance] def Qx3{x0 x1}{s}:=upL (N:=N) (s:=s) (Cw.eq_def N x0 x1) (fun t=>t) x0.2.1.length (fun t=>sz x0≤9223372036854775807) (fun r:((Unit)⊕(Bool))=>True)
@[reducible,instance] def Q58{x0 x1}:=mkW (F4.eq_1 N x0 x1) (sz x0≤9223372036854775807) (fun r=>True)
@[reducible,instance] def Q59{x0 x1}:=mkW (F5.eq_1 N x0 x1) (sz x0≤9223372036854775807) (fun r=>r=0→∃a∈x0.2.1,a.1=x1.2.2.2.1)
@[reducible,instance] def Q6a{x0 x1 x2}:=mkW (F6.eq_1 N x0 x1 x2) (sz x0≤9223372036854775807∧Sh.sh x1) (fun r=>r=0→(0≤x1.1∧x1.1<12622780800∧x2≤x1.1∧(x1.2.1=2→∃a∈x0.1,a.1=x1.2.2.1)∧(¬ (x1.2.1=1∨x1.2.1=2∨x1.2.1=3∨x1.2.1=14∨x1.2.1=15)→∃a∈x0.2.1,a.1=x1.2.2.2.1)))
@[reducible,instance] def Q0q{x0 x1}{s}:=upL (N:=N) (s:=s) (I4.eq_def N x0 x1) (fun t=>t) x0.length (fun t=>sz x0≤9223372036854775807) (fun r:((Int))=>0≤r∧r≤x0.length)
@[reducible,instance] def Q7q{x0 x1}:=mkW (Gz.eq_1 N x0 x1) (sz x0≤1099511627776) (fun r=>sz r≤sz x0+1)
@[reducible,instance] def Quu{x0 x1}{s}:=upL (N:=N) (s:=s) (Ba.eq_def N x0 x1) (fun t=>t.1) x0.length (fun t=>sz x0≤1099511627776∧t.2.length≤t.1∧sz t.2≤(sz x0)) (fun r:(((List Str)))=>sz r≤(sz x0))
@[reducible,instance] def Q0r{x0 x1}:=mkW (K1.eq_1 N x0 x1) (sz x0≤1099511627776) (fun r=>sz r≤(sz x0))
@[reducible,instance] def Q0s{x0 x1}:=mkW (Hr.eq_1 N x0 x1) (sz x0≤1099511627776) (fun r=>r.2.2.2.2.1.length≤x0.2.2.2.2.1.length+1∧r.2.2.2.2.2.1.length≤x0.2.2.2.2.2.1.length+1)
@[reducible,instance] def Q6b{x0 x1}:=mkW (F7.eq_1 N x0 x1) (sz x0≤1099511627776∧(x1.2.1=2→∃a∈x0.1,a.1=x1.2.2.1)∧(¬ (x1.2.1=1∨x1.2.1=2∨x1.2.1=3∨x1.2.1=14∨x1.2.1=15)→∃a∈x0.2.1,a.1=x1.2.2.2.1)) (fun r=>sz r.1≤sz x0.1+1∧sz r.2.1≤sz x0.2.1+1∧sz r.2.2≤sz x0.2.2+1)
@[reducible,instance] def Qx4{x0}{s}:=upL (N:=N) (s:=s) (Cy.eq_def N x0) (fun t=>t.2.1) x0.length (fun t=>x0.length≤4096∧Sh.sh x0∧sz t.2.2.1≤t.2.1∧sz t.2.2.2.1≤t.2.1∧sz t.2.2.2.2≤t.2.1∧Asc x0 t.2.1 t.1) (fun r:((Unit)⊕(Int×Int))=>(∀u,r=.inl u→Q0g x0)∧∀u,r=.inr u→u.2≠0) (step:=by
  intro s h h0 h1 h2 hw
  try simp only[sS,reduceCtorEq]at *
  repeat' (first | intro _ | apply And.intro)
  all_goals first | assumption | (rw[hw (by assumption)]; refine Jl6 h0 h.2.2.2.2.2 (by assumption) ?_ ?_ ?_<;>grind) | exact Jom h.2.2.2.2.2 (by omega) | exact lv)
@[reducible,instance] def Q6c{x0}:=mkW (F8.eq_1 N x0) (sz x0≤1099511627776∧Sh.sh x0) (fun r=>r.2=0→Q0g x0) (k:=by
  intro h
  try simp only[sS,reduceCtorEq]at *
  repeat' (first | intro _ | apply And.intro)
  all_goals first | exact Jl5 | assumption | (exfalso; (repeat cases ‹_∧_›); (exact absurd (by assumption) (by assumption))) | exact lv)
@[reducible,instance] def Qx5{x0}{s}:=upL (N:=N) (s:=s) (Cz.eq_def N x0) (fun t=>t) x0.length (fun t=>sz x0≤9223372036854775807∧Sh.sh x0) (fun r:((Unit)⊕(Int))=>True)
@[reducible,instance] def Qx6{x0}{s}:=upI (N:=N) (s:=s) (C0.eq_def N x0) (fun t=>t) ((x0.length:Int)) (fun t=>sz x0≤9223372036854775807∧1≤t) (fun r:((Unit)⊕(Int))=>True)
@[reducible,instance] def Q6d{x0}:=mkW (F9.eq_1 N x0) (sz x0≤9223372036854775807∧Sh.sh x0) (fun r=>r=0→sz x0≤64)
@[reducible,instance] def Q1r{x0}:=mkW (E1.eq_1 N x0) (sz x0≤9223372036854775807∧Sh.sh x0) (fun r=>r=0→sz x0≤64)
@[reducible,instance] def Q1s{x0}{s}:=Qma (N:=N) (s:=s) (M5.eq_def N x0) x0.2.2.2.2.2 (sz x0≤9223372036854775807∧Sh.sh x0) (fun y=>(sz y:Int)≤64) ((szL (x0.2.2.2.2.2):Int)≤64) (fun u=>u≠0)
@[reducible,instance] def Q99{x0}:=mkW (Dv.eq_1 N x0) (sz x0≤9223372036854775807∧Sh.sh x0) (fun r=>r=0→sz x0≤64)
@[reducible,instance] def Qx7{x0}{s}:=Qma (N:=N) (s:=s) (C1.eq_def N x0) x0 (sz x0≤9223372036854775807∧Sh.sh x0) (fun y=>(sz y:Int)≤64) ((szL (x0):Int)≤64) (fun u=>u≠0)
@[reducible,instance] def Q6e{x0}:=mkW (Aa.eq_1 N x0) (sz x0≤9223372036854775807∧Sh.sh x0) (fun r=>r=0→sz x0≤4096)
theorem Nv{N:Nat}[Ig N]:∀(n:Nat) (e:Jb),dpt e≤n→sz e≤4096→W (V2 N n e) fun r=>r=e
 | 0,e,h,hs=>by cases e with | mk a ks=>rw[dpt]at h; omega
 | n+1,e,h,hs=>by
  unfold V2
  have hk:=Jk3 (e:=e)
  have hlen:=Ua (l:=e.ks)
  have ih:∀x:Jb,WP (V2 N n x) (fun R=>(x∈e.ks∧sz x≤4096)∧∀r:Jb,r=x→R r):=fun x=>Qg3 fun hx=>Nv n x (by have:=Jk5 hx.1; omega) hx.2
  have loop:=fun(q:List Jb) (s:Int×List Jb)=>upL (N:=N) (s:=s) (Pa.eq_def N (V2 N n) q) (fun s=>s.1) q.length (fun s=>q=e.ks∧sz q≤4096∧q.length≤4096∧s.2=q) (fun r:List Jb=>r=q) (step:=by
   intro s h h0 h1 h2 hw
   obtain⟨s1,s2⟩:=s
   obtain⟨h6,h3,h4,h5⟩:=h
   dsimp only at *
   subst h5
   subst h6
   try simp only[sS,reduceCtorEq]at *
   repeat' (first | intro _ | apply And.intro)
   all_goals first | assumption | omega | (subst_vars; exact Fr (by assumption) rfl) | rfl | grind)
  refine wp ?_
  simp only[forall_eq]
  refine⟨by omega,⟨⟨trivial,by omega,by omega,trivial⟩,by omega,by omega⟩,?_⟩
  cases e with
  | mk a ks=>rfl
@[reducible,instance] def Jdi{N:Nat}[hN:Ig N]{x0:Jb}:WP (Qd2 N x0) (fun R=>(sz x0≤4096∧dpt x0≤4096)∧∀r:Jb,r=x0→R r):=Qg3 (by
  intro h
  have:=hN.le
  exact Nv N x0 (by omega) h.1)
@[reducible,instance] def Q0t{r1}{s}:=upL (N:=N) (s:=s) (Ld.eq_def N r1) (fun t=>t.1) r1.length (fun t=>sz r1≤4096∧t.2=r1∧r1.length≤4096) (fun r:(((List Q4)))=>r=r1) (step:=by
  intro s h h0 h1 h2 hw
  try simp only[sS,reduceCtorEq]at *
  repeat' (first | intro _ | apply And.intro)
  all_goals first | exact QW Ua (by omega) | ((repeat cases ‹_∧_›); subst_vars; exact Jlz (by assumption) (by assumption)) | assumption | omega | exact lv)
@[reducible,instance] def Q0u{r2}{s}:=upL (N:=N) (s:=s) (Le.eq_def N r2) (fun t=>t.1) r2.length (fun t=>sz r2≤4096∧t.2=r2∧r2.length≤4096) (fun r:(((List Jg)))=>r=r2) (step:=by
  intro s h h0 h1 h2 hw
  try simp only[sS,reduceCtorEq]at *
  repeat' (first | intro _ | apply And.intro)
  all_goals first | exact QW Ua (by omega) | ((repeat cases ‹_∧_›); subst_vars; exact Jl0 (by assumption) (by assumption)) | assumption | omega | exact lv)
@[reducible,instance] def Q0v{r3}{s}:=upL (N:=N) (s:=s) (Lf.eq_def N r3) (fun t=>t.1) r3.length (fun t=>sz r3≤4096∧t.2=r3∧r3.length≤4096) (fun r:(((List Y7)))=>r=r3) (step:=by
  intro s h h0 h1 h2 hw
  try simp only[sS,reduceCtorEq]at *
  repeat' (first | intro _ | apply And.intro)
  all_goals first | exact QW Ua (by omega) | ((repeat cases ‹_∧_›); subst_vars; exact Jl1 (by assumption) (by assumption)) | assumption | omega | exact lv)
@[reducible,instance] def Q0w{r4}{s}:=upL (N:=N) (s:=s) (Lg.eq_def N r4) (fun t=>t.1) r4.length (fun t=>sz r4≤4096∧t.2=r4∧Qu (fun d:Ji=>dpt d.2.1≤4096) r4∧r4.length≤4096) (fun r:(((List Ji)))=>r=r4) (step:=by
  intro s h h0 h1 h2 hw
  try simp only[sS,reduceCtorEq]at *
  repeat' (first | intro _ | apply And.intro)
  all_goals first | exact QW Ua (by omega) | ((repeat cases ‹_∧_›); subst_vars; exact Jl2 (by assumption) (by assumption)) | assumption | omega | exact Zi (P:=fun d:Ji=>dpt d.2.1≤4096) (by rw[←h.2.1]; assumption) h.2.2.1 | exact lv)
@[reducible,instance] def Q7r{x0}:=mkW (B7.eq_1 N x0) (sz x0≤4096∧Bj x0) (fun r=>r=x0) (k:=by
  intro h
  have g0:=h.2.deep
  try simp only[sS,reduceCtorEq]at *
  repeat' (first | intro _ | apply And.intro)
  all_goals first | exact⟨g0⟩ | assumption | omega | exact lv)
@[reducible,instance] def Q6f{r4}{s}:=upL (N:=N) (s:=s) (Pb.eq_def N r4) (fun t=>t.1) r4.length (fun t=>sz r4≤4096∧t.2=r4∧Qu Bj r4∧r4.length≤4096) (fun r:(((List Qx)))=>r=r4) (step:=by
  intro s h h0 h1 h2 hw
  try simp only[sS,reduceCtorEq]at *
  repeat' (first | intro _ | apply And.intro)
  all_goals first | exact QW Ua (by omega) | ((repeat cases ‹_∧_›); subst_vars; exact Fr (by assumption) rfl) | assumption | omega | exact Zi (by rw[←h.2.1]; assumption) h.2.2.1 | exact lv)
@[reducible,instance] def Q6g{r29}{s}:=upL (N:=N) (s:=s) (Pd.eq_def N r29) (fun t=>t.1) r29.length (fun t=>sz r29≤4096∧t.2=r29∧r29.length≤4096) (fun r:(((List Yn)))=>r=r29) (step:=by
  intro s h h0 h1 h2 hw
  try simp only[sS,reduceCtorEq]at *
  repeat' (first | intro _ | apply And.intro)
  all_goals first | exact QW Ua (by omega) | ((repeat cases ‹_∧_›); subst_vars; exact Jl3 (by assumption) (by assumption)) | assumption | omega | exact lv)
@[reducible,instance] def Q6h{r5}{s}:=upL (N:=N) (s:=s) (Pe.eq_def N r5) (fun t=>t.1) r5.length (fun t=>sz r5≤4096∧t.2=r5∧r5.length≤4096) (fun r:(((List Qn)))=>r=r5) (step:=by
  intro s h h0 h1 h2 hw
  try simp only[sS,reduceCtorEq]at *
  repeat' (first | intro _ | apply And.intro)
  all_goals first | exact QW Ua (by omega) | ((repeat cases ‹_∧_›); subst_vars; exact Jl4 (by assumption) (by assumption)) | assumption | omega | exact lv)
@[reducible,instance] def Q6i{r6}{s}:=upL (N:=N) (s:=s) (Pf.eq_def N r6) (fun t=>t.1) r6.length (fun t=>t.2=r6∧r6.length≤140737488355328∧Qu (fun a:Q2=>a.2.2.2.2.1.length*24≤140737488355328) r6) (fun r:(((List Q2)))=>r=r6) (step:=by
  intro s h h0 h1 h2 hw
  try simp only[sS,reduceCtorEq]at *
  repeat' (first | intro _ | apply And.intro)
  all_goals first | exact QW Ua (by omega) | ((repeat cases ‹_∧_›); subst_vars; exact Jol (by assumption) (by assumption)) | assumption | omega | exact Zi (P:=fun a:Q2=>a.2.2.2.2.1.length*24≤140737488355328) (by rw[←h.1]; assumption) h.2.2 | exact lv)
@[reducible,instance] def Jdj{x0}:=mkW (Me.eq_1 N x0) (Di x0∧x0.2.2.2.1.length*32≤140737488355328∧x0.2.2.2.2.2.length*72≤140737488355328∧Qu (fun a:Q2=>a.2.2.2.2.1.length*24≤140737488355328) x0.2.2.2.2.2) (fun r=>r=x0) (k:=by
  intro h
  have g0:=h.1.ev; have g1:=h.1.tarL; have g2:=h.1.tarS; have g3:=h.1.tarO; have g4:=h.1.prodL; have g5:=h.1.prodS; have g6:=h.1.prodO; have g7:=h.1.hol
  try simp only[sS,reduceCtorEq]at *
  repeat' (first | intro _ | apply And.intro)
  all_goals first | assumption | omega | exact QW Ua (by omega) | exact lv)
@[reducible,instance] def Q0x{x0 x1}:=mkW (Pg.eq_1 N x0 x1) (Di x0∧x0.2.2.2.1.length*32≤140737488355328∧x0.2.2.2.2.2.length*72≤140737488355328∧Qu (fun a:Q2=>a.2.2.2.2.1.length*24≤140737488355328) x0.2.2.2.2.2∧sz x1.1≤1000000000000∧x1.2.1.length≤1000000000000∧x1.2.2.length≤1000000000000) (fun r=>r=(x0.1,x0.2.1,x0.2.2.1,x0.2.2.2.1,x0.2.2.2.2.1,x0.2.2.2.2.2,x1.1,x1.2.1,x1.2.2,[]))
@[reducible,instance] def Q6j{x0}:=mkW (Wq.eq_1 N x0) (True) (fun r=>True)
@[reducible,instance] def Q6k{x0}:=mkW (Ab.eq_1 N x0) (True) (fun r=>True)
@[reducible,instance] def Q0y{x0}{s}:=upL (N:=N) (s:=s) (I5.eq_def N x0) (fun t=>t) x0.length (fun t=>Sh.sh x0) (fun r:((Unit)⊕(Bool))=>True) (fun _ h=>Qg5 (by grind))
@[reducible,instance] def Q7s{x0}:=mkW (G0.eq_1 N x0) (Sh.sh x0) (fun r=>True)
@[reducible,instance] def Q0z{x0}{s}:=upL (N:=N) (s:=s) (I6.eq_def N x0) (fun t=>t) x0.length (fun t=>Sh.sh x0) (fun r:((Unit)⊕(Bool))=>True) (fun _ h=>Qg5 (by grind))
@[reducible,instance] def Q7t{x0}:=mkW (G1.eq_1 N x0) (Sh.sh x0) (fun r=>True)
@[reducible,instance] def Quv{x0 v1 x1 x2}{s}:=upI (N:=N) (s:=s) (Bb.eq_def N x0 v1 x1 x2) (fun t=>t) (9223372036854775807) (fun t=>sz x0≤9223372036854775807∧0≤v1∧v1≤x1∧x1<x0.length∧∀z,x0[x1.toNat]?=some z→0≤x2∧x2<z.2.length∧x0.length≤9223372036854775807) (fun r:((Unit)⊕(Bool))=>True)
@[reducible,instance] def Quw{x1 x0 x2}{s}:=upI (N:=N) (s:=s) (Bc.eq_def N x1 x0 x2) (fun t=>t) (x1+1) (fun t=>sz x0≤9223372036854775807∧0≤x1∧x1<x0.length∧∀z,x0[x1.toNat]?=some z→0≤x2∧x2<z.2.length∧x0.length≤9223372036854775807) (fun r:((Unit)⊕(Bool))=>True)
@[reducible,instance] def Q00{x0 x1 x2}:=mkW (Hs.eq_1 N x0 x1 x2) (sz x0≤9223372036854775807∧0≤x1∧x1<x0.length∧(∀z,x0[x1.toNat]?=some z→0≤x2∧x2<z.2.length)) (fun r=>True)
@[reducible,instance] def Q01{x1 x0 x2}{s}:=upI (N:=N) (s:=s) (I7.eq_def N x1 x0 x2) (fun t=>t) (x1) (fun t=>x1≤x0.length∧x0.length≤9223372036854775807) (fun r:((Unit)⊕(Int))=>∀u,r=.inr u→u≠0)
@[reducible,instance] def Q02{x2 x0 x1}{s}:=upL (N:=N) (s:=s) (I8.eq_def N x2 x0 x1) (fun t=>t) x2.2.length (fun t=>sz x2≤9223372036854775807∧sz x0≤9223372036854775807∧Sh.sh x2∧Sh.sh x0∧0≤x1∧x1<x0.length∧x0[x1.toNat]?=some x2∧x0.length≤9223372036854775807) (fun r:((Unit)⊕(Int))=>∀u,r=.inr u→u≠0)
@[reducible,instance] def Q7u{x0 x1}:=mkW (B2.eq_1 N x0 x1) (sz x0≤9223372036854775807∧Sh.sh x0∧0≤x1∧x1<x0.length) (fun r=>r=0→∃z,x0[x1.toNat]?=some z∧z.2.length≤64)
@[reducible,instance] def Qx8{x0}{s}:=Qma (N:=N) (s:=s) (C2.eq_def N x0) x0 (sz x0≤9223372036854775807∧Sh.sh x0) (fun y=>(sz y:Int)≤64) ((szL (x0):Int)≤64) (fun u=>u≠0)
@[reducible,instance] def Q6l{x0}:=mkW (Ac.eq_1 N x0) (sz x0≤9223372036854775807∧Sh.sh x0) (fun r=>r=0→sz x0≤64)
@[reducible,instance] def Qx9{x0}{s}:=upL (N:=N) (s:=s) (C3.eq_def N x0) (fun t=>t) x0.length (fun t=>sz x0≤9223372036854775807) (fun r:((Unit)⊕(Int))=>True)
@[reducible,instance] def Q6m{x0 x1}:=mkW (Ad.eq_1 N x0 x1) (sz x0≤9223372036854775807) (fun r=>r=0→x0.length≤64)
@[reducible,instance] def Qya{v1 x0}{s}:=upI (N:=N) (s:=s) (C4.eq_def N v1 x0) (fun t=>t) (v1) (fun t=>v1<x0.length∧x0.length≤9223372036854775807) (fun r:((Unit)⊕(Int))=>∀u,r=.inr u→u≠0)
@[reducible,instance] def Qyb{x0}{s}:=Qma (N:=N) (s:=s) (C5.eq_def N x0) x0 (sz x0≤9223372036854775807∧Sh.sh x0) (fun y=>(sz y:Int)≤64) ((szL (x0):Int)≤64) (fun u=>u≠0)
@[reducible,instance] def Q6n{x0}:=mkW (Ae.eq_1 N x0) (sz x0≤9223372036854775807∧Sh.sh x0) (fun r=>r=0→sz x0≤64)
@[reducible,instance] def Q03{x0 x1}{s}:=upL (N:=N) (s:=s) (I9.eq_def N x0 x1) (fun t=>t) x0.2.2.2.1.length (fun t=>sz x0≤9223372036854775807) (fun r:((Unit)⊕(Bool))=>True)
@[reducible,instance] def Q7v{x0 x1}:=mkW (B3.eq_1 N x0 x1) (sz x0≤9223372036854775807) (fun r=>True)
@[reducible,instance] def Q04{x0 x1}{s}:=upL (N:=N) (s:=s) (La.eq_def N x0 x1) (fun t=>t) x0.2.2.2.2.1.length (fun t=>sz x0≤9223372036854775807) (fun r:((Unit)⊕(Bool))=>True)
@[reducible,instance] def Q7w{x0 x1}:=mkW (B4.eq_1 N x0 x1) (sz x0≤9223372036854775807) (fun r=>True)
@[reducible,instance] def Qyc{x0}{s}:=upL (N:=N) (s:=s) (C6.eq_def N x0) (fun t=>t.2) x0.length (fun t=>sz x0≤9223372036854775807) (fun r:((Unit)⊕(Int))=>True)
@[reducible,instance] def Q6o{x0}:=mkW (Af.eq_1 N x0) (sz x0≤9223372036854775807) (fun r=>r=0→x0.length≤64)
@[reducible,instance] def Qyd{x0}{s}:=Qma (N:=N) (s:=s) (C7.eq_def N x0) x0.2.2.2.2.2.1 (sz x0≤9223372036854775807) (fun y=>(sz y:Int)≤64) ((szL (x0.2.2.2.2.2.1):Int)≤64) (fun u=>u≠0)
@[reducible,instance] def Q6p{x0}:=mkW (Ag.eq_1 N x0) (sz x0≤9223372036854775807) (fun r=>r=0→sz x0.2.2.2.2.2.1≤64)
@[reducible,instance] def Q6q{x0}:=mkW (Ah.eq_1 N x0) (True) (fun r=>r≤2∧(x0=4→r=1)∧(¬ (x0=1∨x0=2∨x0=3∨x0=4)→r=2∨r = -1))
@[reducible,instance] def Q1t{x0 x1}{s}:=upL (N:=N) (s:=s) (M6.eq_def N x0 x1) (fun t=>t) x0.length (fun t=>sz x0≤9223372036854775807) (fun r:((Unit)⊕(Bool))=>True)
@[reducible,instance] def Jaa{x0 x1}:=mkW (Eh.eq_1 N x0 x1) (sz x0≤9223372036854775807) (fun r=>True)
@[reducible,instance] def Qvm{x0}:=mkW (Zc.eq_1 N x0) (True) (fun r=>True)
@[reducible,instance] def Jab{x0}:=mkW (Dw.eq_1 N x0) (Sh.sh x0) (fun r=>r=0→x0.ks.length≤2∧((x0.x.1=4→x0.ks.length=1)∧(¬ (x0.x.1=1∨x0.x.1=2∨x0.x.1=3∨x0.x.1=4)→x0.ks.length=2)))
@[reducible,instance] def Q1u{x0 x1}:=mkW (E2.eq_1 N x0 x1) ((x0.x.1=4→1≤x1.length)∧(¬ (x0.x.1=1∨x0.x.1=2∨x0.x.1=3∨x0.x.1=4)→2≤x1.length)) (fun r=>True)
theorem Jl7{α:Type}{a:α}(ks:List (K8 α)):sz (K8.mk a ks)=sz ks:=by
 have:∀l:List (K8 α),szL l=Jfn l:=fun l=>by
  induction l with
  | nil=>rfl
  | cons x l ih=>simp only[szL,Jfn,ih]; rfl
 show rsz (.mk a ks)=max ks.length (szL ks)
 rw[this]; simp only[rsz]
theorem Q6r{N:Nat}[Ig N]:∀(n:Nat) (e:Jb) (d:Int),1≤d→d≤17→18≤n+d→W (V1 N n e d) fun r=>r.2=0→(sz e≤2∧(dpt e:Int)≤17 - d)
 | 0,e,d,h0,h1,h2=>by omega
 | n+1,e,d,h0,h1,h2=>by
  unfold V1
  by_cases hd:d>16
  ·rw[if_pos (by simpa using hd)]
   exact⟨_,rfl,fun h=>by cases h⟩
  ·rw[if_neg (by simpa using hd)]
   have hw:IntKind.wrap .i64 (d+1)=d+1:=Q8 (by omega) (by omega)
   have ih:∀x:Jb,WP (V1 N n x (IntKind.wrap .i64 (d+1))) (fun R=>True∧∀r:Int×Int,(r.2=0→(sz x≤2∧(dpt x:Int)≤16 - d))→R r):=fun x=>Qg3 fun h=>by
    rw[hw]; exact(Q6r n x (d+1) (by omega) (by omega) (by omega)).mono fun r hr hz=>⟨(hr hz).1,by have:=(hr hz).2; omega⟩
   have hfin:e.ks.length≤2→Nu (fun y=>sz y≤2∧(dpt y:Int)≤16 - d) e.ks e.ks.length→sz e≤2∧(dpt e:Int)≤17 - d:=fun hl ha=>by
    have h3:=fun y hy=>Qho ha (JT _) y hy
    refine⟨?_,?_⟩
    ·have h4:sz e=sz e.ks:=by cases e with | mk a ks=>exact Jl7 ks
     rw[h4]
     exact Q49 hl fun y hy=>(h3 y hy).1
    ·have h5:=Js6 (e:=e) (K:=(16 - d).toNat) (fun y hy=>by have:=(h3 y hy).2; omega)
     omega
   have loop:=fun s:Int×List Int=>upL (N:=N) (s:=s) (O9.eq_def N (V1 N n) e d) (fun s=>s.1) e.ks.length (fun s=>e.ks.length≤2∧s.2.length=s.1∧Nu (fun y=>sz y≤2∧(dpt y:Int)≤16 - d) e.ks s.1) (fun r:List Int⊕(Int×Int)=>(∀a,r=.inl a→a.length=e.ks.length∧Nu (fun y=>sz y≤2∧(dpt y:Int)≤16 - d) e.ks e.ks.length)∧∀w,r=.inr w→w.2≠0) (step:=by
    intro s h h0 h1 h2 hw
    try simp only[sS,reduceCtorEq]at *
    repeat' (first | intro _ | apply And.intro)
    all_goals first | assumption | omega | (rw[hw (by assumption)]; exact Rk h0 h.2.2 (by assumption) (by clear h; grind)) | ((have e1:s.1=e.ks.length:=by omega); rw[←e1]; exact h.2.2) | grind)
   refine wp ?_
   simp only[sS,reduceCtorEq,Sum.forall]at *
   repeat' (first | intro _ | apply And.intro)
   all_goals first | assumption | omega | exact V4 | (simp_all; done) | grind
@[reducible,instance] def Jdk{N:Nat}[hN:Ig N]{x0:Jb}{x1:Int}:WP (Qd1 N x0 x1) (fun R=>(x1=1)∧∀r:Int×Int,(r.2=0→(sz x0≤2∧dpt x0≤16))→R r):=Qg3 (by
  intro h
  have:=hN.le
  exact(Q6r N x0 x1 (by omega) (by omega) (by omega)).mono fun r hr hz=>⟨(hr hz).1,by have:=(hr hz).2; omega⟩)
@[reducible,instance] def Q7x{x0}:=mkW (B5.eq_1 N x0) (True) (fun r=>r.2=0→sz x0≤2∧dpt x0≤16)
@[reducible,instance] def Qq7{v1 x0 x2}{s}:=upI (N:=N) (s:=s) (Et.eq_def N v1 x0 x2) (fun t=>t) (v1) (fun t=>v1≤x0.2.2.2.2.2.2.length∧x0.2.2.2.2.2.2.length≤9223372036854775807) (fun r:((Unit)⊕(Int))=>∀u,r=.inr u→u≠0)
@[reducible,instance] def Qq8{x0}{s}:=Qma (N:=N) (s:=s) (Eu.eq_def N x0) x0.2.2.2.2.2.2 (sz x0≤9223372036854775807∧Sh.sh x0) (fun y=>(sz y:Int)≤64∧dpt y.2.1≤4096) ((szL x0.2.2.2.2.2.2:Int)≤64∧Bj x0) (fun u=>u≠0) (fin:=fun h hall=>⟨Qz2 (fun y hy=>(hall y hy).1) (by omega),⟨fun y hy=>(hall y hy).2⟩⟩)
@[reducible,instance] def Qvn{x0}:=mkW (Wr.eq_1 N x0) (sz x0≤9223372036854775807∧Sh.sh x0) (fun r=>r=0→sz x0.2.2.2.2.2.2≤64∧Bj x0)
@[reducible,instance] def Q1v{x0}:=mkW (E3.eq_1 N x0) (sz x0≤9223372036854775807∧Sh.sh x0) (fun r=>r=0→sz x0≤64∧Bj x0)
@[reducible,instance] def Q6s{x0 x1}:=mkW (Ai.eq_1 N x0 x1) (sz x0≤9223372036854775807∧sz x1≤9223372036854775807) (fun r=>True)
@[reducible,instance] def Qye{x0}{s}:=Qma (N:=N) (s:=s) (C8.eq_def N x0) x0 (sz x0≤9223372036854775807∧Sh.sh x0) (fun y=>(sz y:Int)≤64∧Bj y) ((szL x0:Int)≤64∧Qu Bj x0) (fun u=>u≠0) (fin:=fun h hall=>⟨Qz2 (fun y hy=>(hall y hy).1) (by omega),⟨fun y hy=>(hall y hy).2⟩⟩)
@[reducible,instance] def Q6t{x0}:=mkW (Aj.eq_1 N x0) (sz x0≤9223372036854775807∧Sh.sh x0) (fun r=>r=0→sz x0≤4096∧Qu Bj x0)
@[reducible,instance] def Q6u{x0}:=mkW (Al.eq_1 N x0) (True) (fun r=>True)
@[reducible,instance] def Q1w{x0}{s}:=Qma (N:=N) (s:=s) (M7.eq_def N x0) x0 (sz x0≤9223372036854775807) (fun y=>(sz y:Int)≤6) ((szL (x0):Int)≤6) (fun u=>u≠true)
@[reducible,instance] def Jac{x0}:=mkW (Dy.eq_1 N x0) (sz x0≤9223372036854775807) (fun r=>r=true→sz x0≤12)
@[reducible,instance] def Jad{x0}:=mkW (Dz.eq_1 N x0) (sz x0≤9223372036854775807) (fun r=>r=true→sz x0≤12) (k:=by
  intro h
  try simp only[sS,reduceCtorEq]at *
  repeat' (first | intro _ | apply And.intro)
  all_goals first | (simp only[sz1,mx1,Qhn]at *; omega) | exact lv)
@[reducible,instance] def Q05{x0 x1}:=mkW (Ht.eq_1 N x0 x1) (sz x0≤9223372036854775807∧sz x1≤9223372036854775807) (fun r=>True)
@[reducible,instance] def Q06{x0 x1}{s}:=upL (N:=N) (s:=s) (Lb.eq_def N x0 x1) (fun t=>t) x0.length (fun t=>sz x0≤9223372036854775807∧x0.length≤9223372036854775807) (fun r:((Unit)⊕(Int))=>True)
@[reducible,instance] def Q7y{x0 x1}:=mkW (B6.eq_1 N x0 x1) (sz x0≤9223372036854775807) (fun r=>True)
@[reducible,instance] def Q1x{x0 x1}:=mkW (E4.eq_1 N x0 x1) (sz x0≤9223372036854775807∧sz x1≤9223372036854775807) (fun r=>True)
@[reducible,instance] def Qux{x0}{s}:=upI (N:=N) (s:=s) (Bd.eq_def N x0) (fun t=>t) (x0.length) (fun t=>sz x0≤9223372036854775807∧x0.length≤9223372036854775807∧1≤t) (fun r:((Unit)⊕(Bool))=>True)
@[reducible,instance] def Q07{x0}:=mkW (Hu.eq_1 N x0) (sz x0≤9223372036854775807) (fun r=>True)
@[reducible,instance] def Qq9{x0}{s}:=upI (N:=N) (s:=s) (Ev.eq_def N x0) (fun t=>t) (x0.length) (fun t=>sz x0≤9223372036854775807∧x0.length≤9223372036854775807∧1≤t) (fun r:((Unit)⊕(Bool))=>True)
@[reducible,instance] def Qvo{x0}:=mkW (Ws.eq_1 N x0) (x0.length≤9223372036854775807) (fun r=>True)
@[reducible,instance] def Q08{x0}{s}:=upL (N:=N) (s:=s) (Lc.eq_def N x0) (fun t=>t) x0.length (fun t=>Sh.sh x0) (fun r:((Unit)⊕(Bool))=>True) (fun _ h=>Qg5 (by grind))
@[reducible,instance] def Q7z{x0}:=mkW (G2.eq_1 N x0) (Sh.sh x0) (fun r=>True)
@[reducible,instance] def Qyf{x0}{s}:=upL (N:=N) (s:=s) (Da.eq_def N x0) (fun t=>t) x0.2.2.2.2.2.1.length (fun t=>sz x0≤9223372036854775807∧Sh.sh x0) (fun r:((Unit)⊕(Int))=>True)
@[reducible,instance] def Q6v{x0}:=mkW (Am.eq_1 N x0) (sz x0≤9223372036854775807∧Sh.sh x0) (fun r=>True)
@[reducible,instance] def Q6w{x0}:=mkW (Z0.eq_1 N x0) (True) (fun r=>True)
@[reducible,instance] def Q6x{x0}:=mkW (Ao.eq_1 N x0) (True) (fun r=>True)
@[reducible,instance] def Q1y{x0}{s}:=upL (N:=N) (s:=s) (M8.eq_def N x0) (fun t=>t) x0.1.length (fun t=>sz x0≤9223372036854775807∧Sh.sh x0) (fun r:((Unit)⊕(Bool))=>True)
@[reducible,instance] def Q1z{x0}{s}:=upL (N:=N) (s:=s) (M9.eq_def N x0) (fun t=>t) x0.2.1.length (fun t=>sz x0≤9223372036854775807∧Sh.sh x0) (fun r:((Unit)⊕(Bool))=>True)
@[reducible,instance] def Jae{x0}:=mkW (D1.eq_1 N x0) (sz x0≤9223372036854775807∧Sh.sh x0) (fun r=>r=true→sz x0≤12)
@[reducible,instance] def Q10{x1}{s}:=Qma (N:=N) (s:=s) (M2.eq_def N x1) x1 (x1.length≤9223372036854775807) (fun y=>y.2.2.2.2.2.length≤4) (Qu (fun p:Qn=>p.2.2.2.2.2.length≤4) x1) (fun u=>u=false) (fin:=fun h hall=>⟨hall⟩)
attribute [local instance 1300] Jcq in
@[reducible,instance] def Jaf{x0 x1 x2 x3}:=mkW (Eg.eq_1 N x0 x1 x2 x3) (x3≤9223372036854775807∧sz x0≤9223372036854775807∧x1.length≤9223372036854775807∧Sh.sh x0) (fun r=>r=true→x0.length≤40∧x1.length≤8∧Qu (fun p:Qn=>p.2.2.2.2.2.length≤4) x1∧Qdw x0 x3) (k:=by
  intro h
  try simp only[sS,reduceCtorEq]at *
  repeat' (first | intro _ | apply And.intro)
  all_goals first | exact Jgj (by assumption) (by omega) (by omega) (by assumption) | exact Qxv (by omega) | exact Qui (by omega) | (refine(‹_∨_›).elim (fun k=>Qui (by omega)) (fun k=>Qxv (by omega))) | exact lv)
@[reducible,instance] def Qyg{x0}{s}:=Qma (N:=N) (s:=s) (C9.eq_def N x0) x0.2.2.2.2.1 (x0.2.2.2.2.1.length≤9223372036854775807) (fun y=>True) (∀y∈x0.2.2.2.2.1,True) (fun u=>u=false)
attribute [local instance 1300] Js7 in
@[reducible,instance] def Q6y{x0}:=mkW (Ak.eq_1 N x0) (sz x0≤9223372036854775807∧Sh.sh x0) (fun r=>r=true→Di x0∧Q0g x0.1) (k:=by
  intro h
  try simp only[sS,reduceCtorEq]at *
  repeat' (first | intro _ | apply And.intro)
  all_goals first | ((have hq:=h.1); (have hq2:=h.2); clear h; (repeat cases ‹_∧_›); first | assumption | omega | (refine⟨?_,?_,?_,?_,?_,?_,?_,?_⟩<;>first | assumption | omega | (refine Qhq (P:=fun p:Qn=>p.2.2.2.2.2.length≤4) ?_ (fun p hp=>QW hp (by decide)); grind) | grind) | grind) | exact lv)
@[reducible,instance] def Q11{x0}{s}:=Qma (N:=N) (s:=s) (Na.eq_def N x0) x0.2.2 (sz x0≤9223372036854775807∧Sh.sh x0∧Qu (fun o:Vy=>o.1.2.2.2.1≤9223372036854775807) x0.2.2) (fun y=>Qdw x0.1.1 y.1.2.2.2.1) (Qu (fun o:Vy=>Qdw x0.1.1 o.1.2.2.2.1) x0.2.2) (fun u=>u=false) (fin:=fun h hall=>⟨hall⟩) (step:=by
  intro s h h0 h1 h2 hw
  have hA:=h.2.2
  try simp only[sS,reduceCtorEq]at *
  repeat' (first | intro _ | apply And.intro)
  all_goals first | assumption | omega | exact Zi (P:=fun o:Vy=>o.1.2.2.2.1≤9223372036854775807) (by assumption) hA | exact QW Ua (by omega) | exact h.2.1.1.1 | (refine⟨_,by assumption,?_⟩; clear h; grind) | (clear h; grind))
@[reducible,instance] def Qkl{x0}:=mkW (D2.eq_1 N x0) (sz x0≤9223372036854775807∧Sh.sh x0∧Qu (fun o:Vy=>o.1.2.2.2.1≤9223372036854775807) x0.2.2) (fun r=>r=true→Di x0.1∧Q0g x0.1.1∧sz x0.2.1≤12∧x0.2.2.length≤12∧Qu (fun o:Vy=>Qdw x0.1.1 o.1.2.2.2.1) x0.2.2)
open Go Go.RowKit Gd Go.WideShapes Go.ChangeShapes
def Qg9{τ:Type}(P:Program)(r:RT τ)(t:TypeId)(good:τ→Prop):Prop :=
 P.cellsOf t=r.size∧(∀{w:World} {rc:Reach} {b:Nat} {v:Value},Value.okWide P w rc b t v→(r.agg=true→∃cs,v=.agg cs)∧(r.agg=false→∃c,v.cells=#[c]∧v=c)) ∧
 ∀{H:Type} (enc:TypeId×Value→H) (w:World) (n:Nat) (cs:List Value) (x:DataW H×List MemPlace),
  DataW.trod enc P w 0 (fun _=>true) true n t cs=some x→(x.1.weights P t).all (·≤reachBytes)=true→∃y,r.rep (lt w) w y cs∧good y
def mb:Ty→Nat
 | .int .i64=>8
 | .str=>16
 | .sl _=>24
 | .pr .bool r=>8+mb r
 | .pr f r=>mb f+mb r
 | .st fs=>mb fs
 | _=>1
def gz:(t:Ty)→t.De→Prop
 | .int k,x=>Qoh k x
 | .bool,_=>True
 | .str,x=>List.length x≤140737488351232
 | .sl e,x=>List.length x*mb e≤140737488351232∧∀y∈x,gz e y
 | .arr _ e,x=>∀y∈x,gz e y
 | .unit,_=>True
 | .pr f r,x=>gz f x.1∧gz r x.2
 | .st fs,x=>gz fs x
 | .ref,_=>True
 | .rose fs,x=>gd (.rose fs) x
abbrev Q7(P:Program)(t:TypeId)(ty:Ty):Prop:=Qg9 P (rt ty) t (gz ty)
section
variable {P:Program}
theorem Qof{t:TypeId}{ty:Ty}(h:Tn P t ty)(hg:∀x,gd ty x→gz ty x):Q7 P t ty :=
 ⟨h.1,h.2.1,fun enc w n cs x hx _=>let⟨y,h1,h2⟩:=h.2.2 enc w n cs x hx; ⟨y,h1,hg y h2⟩⟩
theorem Jgl{t:TypeId}{k:IntKind}(ht:P.underlying t=some (.int k))(hc:P.cellsOf t=1):Q7 P t (.int k):=Qof (Qnj ht hc) fun _ h=>h
theorem Jag{t:TypeId}(ht:P.underlying t=some .bool)(hc:P.cellsOf t=1):Q7 P t .bool:=Qof (Q80 ht hc) fun _ _=>trivial
theorem Jgm{t:TypeId}(ht:P.underlying t=some .string)(hc:P.cellsOf t=1):Q7 P t .str:=by
 refine⟨hc,(Qwz ht hc).2.1,fun enc w n cs x h hw=>?_⟩
 obtain⟨s,rfl,rfl,hs⟩:=DataW.trod_string ht h
 refine⟨s.data.toList,?_,?_⟩
 ·show [Value.string s]=[Yp s.data.toList]
  simp[Yp]
 ·simp only[DataW.weights,JM,QQ,decide_eq_true_eq]at hw
  exact hw.1
theorem Qha{H:Type}{e:TypeId}:∀{l:List (DataW H)},(DataW.weightsAll P e l).all (·≤reachBytes)=true→∀(i:Nat) d,l[i]?=some d→(d.weights P e).all (·≤reachBytes)=true
 | [],_,i,d,h=>by simp at h
 | x::l,hw,i,d,h=>by
  simp only[DataW.weightsAll,XD,QQ]at hw
  cases i with
  | zero=>simp at h; subst h; exact hw.1
  | succ i=>exact Qha hw.2 i d (by simpa using h)
theorem Qek{H:Type}:∀{ts:List TypeId} {l:List (DataW H)},(DataW.weightsEach P ts l).all (·≤reachBytes)=true→∀(i:Nat) t d,ts[i]?=some t→l[i]?=some d→(d.weights P t).all (·≤reachBytes)=true
 | [],l,_,i,t,d,h,_=>by simp at h
 | t0::ts,[],_,i,t,d,_,h=>by simp at h
 | t0::ts,x::l,hw,i,t,d,ht,h=>by
  simp only[DataW.weightsEach,XD,QQ]at hw
  cases i with
  | zero=>simp at h ht; subst h; subst ht; exact hw.1
  | succ i=>exact Qek hw.2 i t d (by simpa using ht) (by simpa using h)
theorem Uf{t e:TypeId}{ty:Ty}(ht:P.underlying t=some (.slice e))(hc:P.cellsOf t=1)(he:Q7 P e ty)(hpos:Nat.ble 1 ty.size=true)(hby:Nat.ble (mb ty) (P.bytesOf e)=true):Q7 P t (.sl ty):=by
 have hby:=QK hby
 have hps:0<(rt ty).size:=by rw[Jl]; exact QK hpos
 refine⟨hc,fun hv=>⟨fun h=>(nomatch h),fun _=>?_⟩,fun enc w n cs x h hw=>?_⟩
 ·obtain⟨a,l,c,rfl⟩:=okWide_slice ht hv
  exact⟨_,rfl,rfl⟩
 ·rcases DataW.trod_slice ht h with⟨rfl,_⟩ | ⟨a,len,cap,elems,rest,m,_,rfl,rfl,_,hlc,hcm,hel,hall,_⟩
  ·exact⟨([]:List ty.De),⟨_,rfl,none,0,0,rfl,rfl,QU _,fun h0=>absurd h0 (by omega)⟩,by simp,fun y hy=>by cases hy⟩
  ·simp only[DataW.weights,ht,JM,XD,QQ,decide_eq_true_eq,JO]at hw
   obtain⟨hw1,hw2,_⟩:=hw
   have hsz:P.cellsOf e=(rt ty).size:=he.1
   have h1:∀i,i<len→∃y cs,(rt ty).rep (lt w) w y cs∧gz ty y∧w.cells? 0 (a.add (i*P.cellsOf e)) (P.cellsOf e)=some cs:=by
    intro i hi
    have:=hall i hi
    obtain⟨z,hz⟩:∃z,elems[i]?=some z:=⟨elems[i]'(by omega),List.getElem?_eq_getElem (by omega)⟩
    rw[hz]at this
    obtain⟨cs,hcs,hz2⟩:=Option.bind_eq_some_iff.1 this
    obtain⟨y,hy,hg⟩:=he.2.2 enc w m cs z hz2 (Qha hw2 i z.1 (by rw[JS,hz]; rfl))
    exact⟨y,cs,hy,hg,hcs⟩
   have h2:∀k,k≤len→∃ys:List ty.De,ys.length=k∧∀i y,ys[i]?=some y→∃cs,(rt ty).rep (lt w) w y cs∧gz ty y∧w.cells? 0 (a.add (i*P.cellsOf e)) (P.cellsOf e)=some cs:=by
    intro k
    induction k with
    | zero=>exact fun _=>⟨[],rfl,fun i y h=>by simp at h⟩
    | succ k ih =>
     intro hk
     obtain⟨ys,hl,hys⟩:=ih (by omega)
     obtain⟨y,cs,hy,hg,hcs⟩:=h1 k (by omega)
     refine⟨ys++[y],by simp[hl],fun i z hz=>?_⟩
     rcases Nat.lt_or_ge i k with hlt | hge
     ·rw[JV (by omega)]at hz
      exact hys i z hz
     ·rw[JG (by omega)]at hz
      have:i - ys.length=0:=by
       rcases Nat.eq_zero_or_pos (i - ys.length)with h | h
       ·exact h
       ·rw[List.getElem?_eq_none (by simp; omega)]at hz; cases hz
      rw[this]at hz
      simp at hz
      subst hz
      have hik:i=k:=by omega
      subst hik
      exact⟨cs,hy,hg,hcs⟩
   obtain⟨ys,hl,hys⟩:=h2 len (QU _)
   refine⟨ys,⟨_,rfl,some a,len,cap,rfl,hl,hlc,fun h0=>?_⟩,?_,fun y hy=>?_⟩
   ·have hsp:a.spot=none:=by
     obtain⟨y,cs,_,_,hcs⟩:=h1 0 h0
     obtain⟨_,hlen,hcell⟩:=World.cells?_some hcs
     have g0:=hcell 0 (by omega)
     obtain⟨c0,hc0⟩:∃c0,cs[0]?=some c0:=⟨cs[0]'(by omega),List.getElem?_eq_getElem (by omega)⟩
     rw[hc0]at g0
     simpa[Addr.add]using World.cell?_spot g0
    obtain⟨b,o,sp⟩:=a
    simp only at hsp
    subst hsp
    refine⟨b,o,rfl,fun i y hi=>?_⟩
    obtain⟨cs,hy,_,hcs⟩:=hys i y hi
    obtain⟨_,hlen,hcell⟩:=World.cells?_some hcs
    refine⟨cs,hy,fun j u hu=>?_⟩
    have hj:j<P.cellsOf e:=by rw[←hlen]; exact(List.getElem?_eq_some_iff.1 hu).1
    have:=hcell j hj
    rw[hu,add_plain,add_plain,hsz]at this
    refine⟨?_,this⟩
    show b<w.heap.size
    unfold World.cell? at this
    rcases Nat.lt_or_ge b w.heap.size with hlt | hge
    ·exact hlt
    ·rw[Array.getElem?_eq_none hge]at this; cases this
   ·have hl':List.length ys=len:=hl
    have:len*mb ty≤(elems.length+rest.length)*P.bytesOf e:=Nat.mul_le_mul (by omega) hby
    rw[hl']
    exact QW this hw1
   ·obtain⟨i,hi⟩:=List.getElem?_of_mem hy
    obtain⟨_,_,hg,_⟩:=hys i y hi
    exact hg
theorem Qg9.fld{τ:Type}{r:RT τ}{t:TypeId}{g:τ→Prop}(ho:Qg9 P r t g){H:Type}{enc:TypeId×Value→H}{w:World}{n:Nat}{cs:List Value}{fs:Array Field}{xs:List (DataW H×List MemPlace)}
  (hlen:xs.length=fs.size) (hf:∀(i:Nat) (f:Field),fs[i]?=some f→DataW.trod enc P w 0 (fun _=>true) true n f.type ((cs.drop f.offset).take (P.cellsOf f.type))=xs[i]?)
  (hw:(DataW.weightsEach P (fs.toList.map (·.type)) (xs.map (·.1))).all (·≤reachBytes)=true)
  (i:Nat) (o:Nat) {f:Field} (hi:fs[i]?=some f) (ht:f.type=t) (hof:f.offset=o):∃y,r.rep (lt w) w y ((cs.drop o).take r.size)∧g y:=by
 have h1:=hf i f hi
 have hlt:=(Array.getElem?_eq_some_iff.1 hi).1
 have hx:xs[i]?=some xs[i]:=List.getElem?_eq_getElem (by omega)
 rw[hx,ht,hof,ho.1]at h1
 refine ho.2.2 enc w n _ _ h1 (Qek hw i t xs[i].1 ?_ ?_)
 ·rw[JS,ZA,hi]
  show some f.type=some t
  rw[ht]
 ·rw[JS,hx]; rfl
inductive Quk(P:Program)(ff:Array Field):Ty→Nat→Nat→Prop
 | last {ty:Ty} {i off t:Nat} {f:Field} (ho:Q7 P t ty) (hi:ff[i]?=some f) (ht:f.type=t) (hoff:f.offset=off):Quk P ff ty i off
 | pr {ty r:Ty} {i off t:Nat} {f:Field} (ho:Q7 P t ty) (hi:ff[i]?=some f) (ht:f.type=t) (hoff:f.offset=off) (hr:Quk P ff r (i+1) (off+ty.size)):Quk P ff (.pr ty r) i off
theorem Jah{ff:Array Field}{H:Type}{enc:TypeId×Value→H}{w:World}{n:Nat}{cs:List Value}{xs:List (DataW H×List MemPlace)}
  (hlen:xs.length=ff.size) (hf:∀(i:Nat) (f:Field),ff[i]?=some f→DataW.trod enc P w 0 (fun _=>true) true n f.type ((cs.drop f.offset).take (P.cellsOf f.type))=xs[i]?)
  (hw:(DataW.weightsEach P (ff.toList.map (·.type)) (xs.map (·.1))).all (·≤reachBytes)=true) :
  ∀{ty:Ty} {i off:Nat},Quk P ff ty i off→cs.length=off+ty.size→∃y,(rt ty).rep (lt w) w y (cs.drop off)∧gz ty y:=by
 intro ty i off h
 induction h with
 | last ho hi ht hoff =>
  intro hl
  obtain⟨y,h1,h2⟩:=Qg9.fld ho hlen hf hw _ _ hi ht hoff
  rw[List.take_of_length_le (by simp; rw[Jl]; omega)]at h1
  exact⟨y,h1,h2⟩
 | pr ho hi ht hoff hr ih =>
  intro hl
  rename_i ty r i off t f
  obtain⟨y,h1,h2⟩:=Qg9.fld ho hlen hf hw _ _ hi ht hoff
  have hl':cs.length=off+ty.size+r.size:=by
   have:(Ty.pr ty r).size=ty.size+r.size:=rfl
   omega
  obtain⟨z,h3,h4⟩:=ih hl'
  refine⟨(y,z),⟨_,cs.drop (off+ty.size),?_,h1,h3⟩,h2,h4⟩
  rw[Jl,←List.drop_drop]
  exact(List.take_append_drop _ _).symm
theorem Vk{t:TypeId}{fs:Ty}{ff:Array Field}(ht:P.underlying t=some (.struct ff))(hc:P.cellsOf t=fs.size)(ho:Quk P ff fs 0 0):Q7 P t (.st fs):=by
 refine⟨by rw[hc,Jl]; rfl,fun hv=>⟨fun _=>?_,fun h=>nomatch h⟩,fun enc w n cs x h hw=>?_⟩
 ·obtain⟨c,rfl,_⟩:=okWide_struct ht hv; exact⟨_,rfl⟩
 ·obtain⟨xs,m,_,rfl,hl,hlen,hf⟩:=DataW.trod_struct ht h
  simp only[DataW.weights,ht]at hw
  obtain⟨y,h1,h2⟩:=Jah hlen hf hw ho (by rw[hl,hc]; simp)
  exact⟨y,by simpa[rt,Jrx]using h1,h2⟩
theorem Qg9.arg{τ:Type}{r:RT τ}{t:TypeId}{g:τ→Prop}(ho:Qg9 P r t g){H:Type}{enc:TypeId×Value→H}{w:World}{rc:Reach}{b:Nat}{v:Value}{d:DataW H}{ps:List MemPlace}
  (hv:Value.okWide P w rc b t v) (h:DataW.Trod enc P w 0 (fun _=>true) true t v d ps) (hw:(d.weights P t).all (·≤reachBytes)=true):∃y,isV r (lt w) w y v∧g y:=by
 obtain⟨n,hn⟩:=h
 obtain⟨y,hy,hg⟩:=ho.2.2 enc w n _ _ hn hw
 refine⟨y,⟨_,hy,?_⟩,hg⟩
 unfold RT.val
 cases ha:r.agg with
 | true =>
  obtain⟨cs,rfl⟩:=(ho.2.1 hv).1 ha
  simp[Value.cells]
 | false =>
  obtain⟨c,hc,rfl⟩:=(ho.2.1 hv).2 ha
  rw[hc]; simp
end
section
variable {H:Type} {enc:TypeId×Value→H} {P:Program} {W:World} {base:Nat} {vs:List String} {us:List TypeId}
theorem Jtb{t:TypeId}{args:Array Value}{ds gs:List (DataW H)}{before:List MemPlace}{ts:Array TypeId}(hts:ts=#[t])
  (hval:∀(j:Nat) t v,ts[j]?=some t→args[j]?=some v→Value.okWide P W .any base t v) (hW:DataW.Whole enc P ts.toList vs false W args.toList ds gs before)
  (hz:(DataW.weightsEach P (ts.toList++us) (ds++gs)).all (·≤reachBytes)=true)
  {τ:Type} {r:RT τ} {g:τ→Prop} (ho:Qg9 P r t g):∃v y,args=⟨[v]⟩∧isV r (lt W) W y v∧g y:=by
 subst hts
 obtain⟨p,q,hA,_⟩:=hW
 obtain⟨v0,vs0,d0,ds0,p0,q0,hargs,rfl,rfl,h0,r0⟩:=trodAll_cons hA
 obtain⟨rfl,rfl,rfl⟩:=trodAll_nil r0
 obtain rfl:args=⟨[v0]⟩:=by cases args; simp_all
 simp only[QB,DataW.weightsEach,XD,QQ]at hz
 obtain⟨y,hy,hg⟩:=ho.arg (hval 0 t v0 rfl rfl) h0 hz.1
 exact⟨v0,y,rfl,hy,hg⟩
end
theorem Jon{l:List Ql}{t:Int}(h:Q0g l)(hn:Qdw l t):∃I:Y0,Qu (fun m:Ql=>@Aft I m.1) l∧(0<l.length→t<12622780800→t<I.hi):=by
 cases l with
 | nil=>exact⟨⟨0,0,by omega,by omega,by omega⟩,⟨fun m hm=>absurd hm JB⟩,fun h=>absurd h (by simp)⟩
 | cons a l =>
  have ha:=(h.all a (.head _)).1
  rcases hn.at_ a rfl with ht | ht
  ·exact⟨⟨0,69120000,by omega,by omega,by omega⟩,⟨fun m hm=>@Aft.mk ⟨0,69120000,by omega,by omega,by omega⟩ _ (h.all m hm).1.1⟩,fun _ _=>ht⟩
  ·by_cases hc:a.1+69120000≤12622780800
   ·exact⟨⟨a.1,a.1+69120000,by omega,by omega,by omega⟩,⟨fun m hm=>@Aft.mk ⟨a.1,a.1+69120000,by omega,by omega,by omega⟩ _ ((h.all m hm).2 a rfl)⟩,fun _ _=>by show t<a.1+69120000; omega⟩
   ·exact⟨⟨a.1,12622780800,by omega,by omega,by omega⟩,⟨fun m hm=>@Aft.mk ⟨a.1,12622780800,by omega,by omega,by omega⟩ _ ((h.all m hm).2 a rfl)⟩,fun _ h=>h⟩
theorem Joo{N:Nat}{x1:Jy}{b:Qt}{s:Qr}{m:List (Int×Qb)}{a:Qq}(h1:1≤x1.2.2.1)(h4:x1.2.2.1≤4)(h:Qkk m x1.1 x1.2.1 a):Jn N x1 b s m=some (a,b,s.1,s.2.1,s.2.2,m):=by
 obtain⟨x,hx,hq,hl⟩:=h.ex
 unfold Jn J4
 rw[QY,if_neg (by decide),if_neg (by simp only[JA,decide_eq_true_eq]; omega),if_pos (by rw[hx]; simp[hq]),hx]
 simp only[XF]
 rw[hl]
structure StO(i:Nat)(s:Qr)(m:List (Int×Qb)):Prop where
 b:s.1.length≤12+i*11468800000
 z:sz s.1≤1000000000000
 w:s.2.1.length≤12+i
 c:s.2.2.length≤12
 ms:Qu Ue m
 l:m.length≤i
structure Jop(l:List Ql)(x:Jy):Prop where
 sh:Sh.sh x.2.2.2.2.2.2.1
 len:List.length x.2.2.2.2.2.2.1≤9223372036854775807
 near:Qdw l x.2.2.2.1
 key:Ho x.1=true
theorem Ju7{N:Nat}[hN:Ig N]{x1:Jy}{b:Qt}{s:Qr}{m:List (Int×Qb)}{i:Nat}(hi:i≤12)(hb:Di b)(he:Q0g b.1)(hx:Jop b.1 x1)(h:StO i s m) :
  ∃(a:Qq) (s':Qr) (m':List (Int×Qb)),Jn N x1 b s m=some (a,b,s'.1,s'.2.1,s'.2.2,m')∧StO (i+1) s' m'∧Jn N x1 b s' m'=some (a,b,s'.1,s'.2.1,s'.2.2,m'):=by
 obtain⟨I,hA,hT⟩:=Jon he hx.near
 have hb1:=h.b; have hw1:=h.w; have hc1:=h.c; have hl1:=h.l
 obtain⟨⟨a,b',bk,w,c,m'⟩,er,p1,p2,p3,p4,p5,p6,p7,p8⟩:=(@Qe1 N _ I x1 b s m).spec _ ⟨⟨hb,hA,by omega,h.z,by omega,by omega,hx.sh,hx.len,hT,h.ms,by omega,hx.key⟩,fun r h=>h⟩
 dsimp only at p1 p2 p3 p4 p5 p6 p7 p8
 subst p1
 refine⟨a,(bk,w,c),m',er,⟨by dsimp only; omega,p3,by dsimp only; omega,by dsimp only; rw[p5]; exact hc1,p6,by omega⟩,?_⟩
 rcases p8 with⟨q1,q2,q3,q4⟩ | ⟨q1,q2,q3⟩
 ·subst q1 q2 q3 q4
  exact er
 ·exact Joo q1 q2 q3
theorem Jtc{N:Nat}[hN:Ig N]{t:Int}{b:Qt}{s:Qr}{m:List (Int×Qb)}{i:Nat}(hi:i≤12)(h:StO i s m) :
  ∃(s':Qr) (m':List (Int×Qb)) (l:List Int),Y5 N t b s m=some (b,s',m',l)∧l.length≤1000000100∧StO i s' m'∧Ux N t b s' m'=some (b,s',m',[]):=by
 have hb1:=h.b; have hw1:=h.w; have hc1:=h.c; have hl1:=h.l
 obtain⟨⟨b',s',m',l⟩,er,p1,p2,p3,p4,p5,p6,p7,p8,p9⟩:=(R7 (N:=N) (x1:=t) (ca:=b) (cj:=s) (c7:=m)).spec _ ⟨⟨h.ms,by omega,by omega,h.z,by omega,by omega⟩,fun r h=>h⟩
 dsimp only at p1 p2 p3 p4 p5 p6 p7 p8 p9
 subst p1
 have hs:StO i s' m':=⟨by omega,p2,by omega,by rw[p5]; exact hc1,p6,by omega⟩
 obtain⟨r,er2,q⟩:=(R8 (N:=N) (x1:=t) (ca:=b') (cj:=s') (c7:=m')).spec _ ⟨⟨p6,by omega,by omega,p2,by omega,by rw[p5]; omega,p8⟩,fun r h=>h⟩
 exact⟨s',m',l,er,p9,hs,q▸er2⟩
theorem Jl8{N:Nat}[hN:Ig N]{b:Qt}{s:Qr}{m:List (Int×Qb)}{i:Nat}(hi:i≤13)(h:StO i s m) :
  Yo N b s m=some s∧Uw N s s=some true∧∃l:List Qb,J7 N b s m=some (m,l)∧Ub N l l=some true:=by
 have hb1:=h.b; have hw1:=h.w; have hc1:=h.c; have hl1:=h.l
 obtain⟨r,e1,q1⟩:=(Qap (N:=N) (ca:=b) (cj:=s) (c7:=m)).spec _ ⟨⟨h.z,by omega,by omega⟩,fun r h=>h⟩
 obtain⟨r2,e2,q2⟩:=(Qim (N:=N) (x0:=s) (x1:=s)).spec _ ⟨by have:=h.z; simp only[sz1,mx1,Qhn]at *; omega,fun r h=>h⟩
 obtain⟨⟨m',l⟩,e3,q3,q4,q5⟩:=(Oa (N:=N) (ca:=b) (cj:=s) (c7:=m)).spec _ ⟨⟨h.ms,by omega⟩,fun r h=>h⟩
 dsimp only at q3 q4 q5
 subst q3
 have hz:sz l≤9223372036854775807:=Q49 (by omega) fun x hx=>by
  have k:=h.ms.all _ (Qb8 (q4.all x hx))
  have k1:=k.tk; have k2:=k.st
  simp only[sz1,mx1,Qhn]at *; omega
 obtain⟨r4,e4,q6⟩:=(Oc (N:=N) (x0:=l) (x1:=l)).spec _ ⟨hz,fun r h=>h⟩
 exact⟨q1▸e1,(q2 rfl)▸e2,l,e3,(q6 rfl)▸e4⟩
theorem Ju8{N:Nat}[hN:Ig N]{l:List Int}(h:l.length≤1000000100):Ha N l l=some true:=by
 obtain⟨r,e,q⟩:=(Qin (N:=N) (x0:=l) (x1:=l)).spec _ ⟨by simp only[sz1,mx1,Qhn]at *; omega,fun r h=>h⟩
 exact(q rfl)▸e
theorem Joq(M:Nat):Z9 (M+64)=some true:=by kernel_rfl
theorem Jl9{N:Nat}[hN:Ig N]:Z9 N=some true:=by
 have e:N=(N - 64)+64:=by have:=hN.le; omega
 rw[e]; exact Joq _
abbrev oSt(i:Int)(b:Qt)(s:Qr)(m:List (Int×Qb)):Int×(List Ql)×(List Qx)×(List Qn)×(List Hp)×(List Int)×(List Q2)×(List Qa)×(List Qc)×(List Qd)×(List Ql)×(List Qx)×(List Qn)×(List Hp)×(List Int)×(List Q2)×(List Qa)×(List Qc)×(List Qd)×(List (Int×Qb))×(List (Int×Qb)) :=
 (i,b.1,b.2.1,b.2.2.1,b.2.2.2.1,b.2.2.2.2.1,b.2.2.2.2.2,s.1,s.2.1,s.2.2,b.1,b.2.1,b.2.2.1,b.2.2.2.1,b.2.2.2.2.1,b.2.2.2.2.2,s.1,s.2.1,s.2.2,m,m)
theorem Jma{i j:Nat}{s:Qr}{m:List (Int×Qb)}(h:StO i s m)(hij:i≤j):StO j s m:=⟨QW h.b (Nat.add_le_add_left (QI _ hij) 12),h.z,by have:=h.w; omega,h.c,h.ms,by have:=h.l; omega⟩
theorem Jgn{N:Nat}[hN:Ig N]{x0:Yt}{i:Nat}{s:Qr}{m:List (Int×Qb)}(hi:i<x0.2.2.length)(hl:x0.2.2.length≤12)(hb:Di x0.1)(he:Q0g x0.1.1)(hx:Jop x0.1.1 x0.2.2[i].1)(h:StO i s m) :
  ∃s' m',J3 N x0 (oSt i x0.1 s m)=some (.inl (oSt ((i+1:Nat):Int) x0.1 s' m'))∧StO (i+1) s' m':=by
 have hw:IntKind.wrap .i64 ((i:Int)+1)=((i+1:Nat):Int):=Q8 (n:=(i:Int)+1) (by omega) (by omega)
 unfold J3
 have ei:idx x0.2.2 (i:Int)=some x0.2.2[i]:=Jn5 hi
 rw[if_pos (decide_eq_true (by show(i:Int)<_; omega))]
 dsimp only[oSt]
 rw[ei,QY,QY]
 by_cases hc:x0.2.2[i].2=true
 ·rw[if_pos hc]
  obtain⟨s',m',l,e1,hl1,hs,e2⟩:=Jtc (N:=N) (t:=x0.2.2[i].1.2.2.2.1) (b:=x0.1) (by omega) h
  have hs':=Jma hs (XC i)
  refine⟨s',m',?_,hs'⟩
  have e1':Y5 N x0.2.2[i].1.2.2.2.1 (x0.1.1,x0.1.2.1,x0.1.2.2.1,x0.1.2.2.2.1,x0.1.2.2.2.2.1,x0.1.2.2.2.2.2) (s.1,s.2.1,s.2.2) m=some (x0.1,s',m',l):=e1
  rw[e1',QY,QY]
  dsimp only
  rw[Ju8 hl1,QY,if_neg (by decide),e2,QY]
  simp only[QY]
  rw[if_neg (by decide)]
  simp only[QY]
  obtain⟨c1,c2,q,c3,c4⟩:=Jl8 (N:=N) (b:=x0.1) (by omega) hs'
  have c1':Yo N x0.1 (s'.1,s'.2.1,s'.2.2) m'=some (s'.1,s'.2.1,s'.2.2):=c1
  have c2':Uw N (s'.1,s'.2.1,s'.2.2) (s'.1,s'.2.1,s'.2.2)=some true:=c2
  have c3':J7 N x0.1 (s'.1,s'.2.1,s'.2.2) m'=some (m',q):=c3
  simp only[c1,c3,c2',c4,QY,Bool.not_true,JJ,if_false,hw]
 ·rw[if_neg hc]
  obtain⟨a,s',m',e1,hs,e2⟩:=Ju7 (N:=N) (b:=x0.1) (by omega) hb he hx h
  refine⟨s',m',?_,hs⟩
  have e1':Jn N x0.2.2[i].1 (x0.1.1,x0.1.2.1,x0.1.2.2.1,x0.1.2.2.2.1,x0.1.2.2.2.2.1,x0.1.2.2.2.2.2) (s.1,s.2.1,s.2.2) m=some (a,x0.1,s'.1,s'.2.1,s'.2.2,m'):=e1
  have e2':Jn N x0.2.2[i].1 x0.1 (s'.1,s'.2.1,s'.2.2) m'=some (a,x0.1,s'.1,s'.2.1,s'.2.2,m'):=e2
  rw[e1',QY,QY]
  have ha:((a.1==a.1)&&((a.2.1==a.2.1)&&((a.2.2.1==a.2.2.1)&&((a.2.2.2.1==a.2.2.2.1)&&((a.2.2.2.2==a.2.2.2.2)&&true)))))=true:=by simp
  dsimp only
  rw[ha,if_neg (by decide),e2',QY]
  dsimp only
  rw[ha,if_neg (by decide),e2',QY]
  dsimp only
  rw[ha]
  simp only[QY]
  rw[if_neg (by decide)]
  simp only[QY]
  obtain⟨c1,c2,q,c3,c4⟩:=Jl8 (N:=N) (b:=x0.1) (by omega) hs
  have c1':Yo N x0.1 (s'.1,s'.2.1,s'.2.2) m'=some (s'.1,s'.2.1,s'.2.2):=c1
  have c2':Uw N (s'.1,s'.2.1,s'.2.2) (s'.1,s'.2.1,s'.2.2)=some true:=c2
  have c3':J7 N x0.1 (s'.1,s'.2.1,s'.2.2) m'=some (m',q):=c3
  simp only[c1',c3',c2',c4,QY,Bool.not_true,JJ,if_false,hw]
theorem Q6z{N:Nat}[hN:Ig N]{x0:Yt}(hl:x0.2.2.length≤12)(hb:Di x0.1)(he:Q0g x0.1.1)(hx:∀o∈x0.2.2,Jop x0.1.1 o.1):∀(k n i:Nat) (s:Qr) (m:List (Int×Qb)),x0.2.2.length=i+k→k<n→StO i s m →
  Qm (J3 N x0) n (oSt i x0.1 s m)=some (.inl ())
 | 0,0,i,s,m,hk,hn,h=>by omega
 | 0,n+1,i,s,m,hk,hn,h=>by
  have e:J3 N x0 (oSt i x0.1 s m)=some (.inr (.inl ())):=by
   unfold J3
   rw[if_neg (fun h=>by have:=of_decide_eq_true h; dsimp only[oSt]at this; omega)]
  simp[Qm,e]
 | k+1,0,i,s,m,hk,hn,h=>by omega
 | k+1,n+1,i,s,m,hk,hn,h=>by
  obtain⟨s',m',e,hs⟩:=Jgn (N:=N) (i:=i) (by omega) hl hb he (hx _ (List.getElem_mem (by omega))) h
  simp only[Qm,e,QY]
  exact Q6z hl hb he hx k n (i+1) s' m' (by omega) (by omega) hs
theorem Jvx{N:Nat}[hN:Ig N]{x0:Yt}(hz:sz x0≤9223372036854775807)(hs:Sh.sh x0)(ht:x0.1.2.2.2.1.length*32≤140737488355328)(ha:x0.1.2.2.2.2.2.length*72≤140737488355328)(hg:Qu (fun a:Q2=>a.2.2.2.2.1.length*24≤140737488355328) x0.1.2.2.2.2.2)
  (hAt:Qu (fun o:Vy=>o.1.2.2.2.1≤9223372036854775807) x0.2.2) (hk:∀o∈x0.2.2,Ho o.1.1=true):Uy N x0=some true:=by
 obtain⟨r,er,hr⟩:=(Qkl (N:=N) (x0:=x0)).spec _ ⟨⟨hz,hs,hAt⟩,fun r h=>h⟩
 unfold Uy
 rw[er,QY]
 cases r with
 | false=>rw[if_pos (by decide),Jl9]; rfl
 | true =>
  rw[if_neg (by decide)]
  obtain⟨hb,he,h12,hl,hn⟩:=hr rfl
  have h12':sz x0.2.1.1≤12∧x0.2.1.2.1.length≤12∧x0.2.1.2.2.length≤12:=by
   simp only[sz1,mx1,Qhn]at h12; exact⟨by omega,by omega,by omega⟩
  have hb1:=Ua (l:=x0.2.1.1)
  obtain⟨w,ew,hw⟩:=(Q0x (N:=N) (x0:=x0.1) (x1:=x0.2.1)).spec _ ⟨⟨hb,ht,ha,hg,by omega,by omega,by omega⟩,fun r h=>h⟩
  rw[ew,QY,QY,hw]
  have hx:∀o∈x0.2.2,Jop x0.1.1 o.1:=fun o ho=>by
   have h1:Sh.sh o.1.2.2.2.2.2.2.1:=by
    have h2:Sh.sh x0.2.2:=hs.2.2
    exact(Jk4 ho h2).1.2.2.2.2.2.2.1
   exact⟨h1,h1,hn.all o ho,hk o ho⟩
  have key:=Q6z (N:=N) (x0:=x0) hl hb he hx x0.2.2.length N 0 x0.2.1 [] (by omega) (by have:=hN.le; omega) ⟨by omega,by omega,by omega,by omega,Ye,by simp⟩
  have key':Qm (J3 N x0) N (0,x0.1.1,x0.1.2.1,x0.1.2.2.1,x0.1.2.2.2.1,x0.1.2.2.2.2.1,x0.1.2.2.2.2.2,x0.2.1.1,x0.2.1.2.1,x0.2.1.2.2,x0.1.1,x0.1.2.1,x0.1.2.2.1,x0.1.2.2.2.1,x0.1.2.2.2.2.1,x0.1.2.2.2.2.2,x0.2.1.1,x0.2.1.2.1,x0.2.1.2.2,[],[])=some (.inl ()):=key
  dsimp only
  rw[key',QY]
  dsimp only
  rw[Jl9]; rfl
theorem Jtd{α:Type}{e:K8 α}{K:Nat}(h:e.ks.length≤K)(hk:∀y∈e.ks,sz y≤K):sz e≤K:=by
 cases e with
 | mk a ks=>rw[Jl7]; exact Q49 h hk
abbrev GS(t:Ty)(i:Sz t.De)(j:Sh t.De):Prop:=∀x:t.De,gz t x→@sz _ i x≤9223372036854775807∧@Sh.sh _ j x
theorem gsI{k:IntKind}:GS (.int k) (inferInstanceAs (Sz Int)) (inferInstanceAs (Sh Int)):=fun _ _=>⟨QO _,True.intro⟩
theorem gsB:GS .bool (inferInstanceAs (Sz Bool)) (inferInstanceAs (Sh Bool)):=fun _ _=>⟨QO _,True.intro⟩
theorem gsS:GS .str (inferInstanceAs (Sz (List UInt8))) (inferInstanceAs (Sh (List UInt8))):=fun x h=>⟨QO _,QW (show List.length x≤140737488351232 from h) (by decide)⟩
theorem Q09:∀t:Ty,1≤mb t
 | .int k=>by cases k<;>simp[mb]
 | .bool=>by simp[mb]
 | .str=>by simp[mb]
 | .sl _=>by simp[mb]
 | .arr _ _=>by simp[mb]
 | .unit=>by simp[mb]
 | .pr f r=>by have:=Q09 f; have:=Q09 r; cases f<;>simp only[mb]<;>omega
 | .st fs=>by have:=Q09 fs; simp only[mb]; omega
 | .ref=>by simp[mb]
 | .rose _=>by simp[mb]
theorem gsL{t:Ty}{i:Sz t.De}{j:Sh t.De}(h:GS t i j):GS (.sl t) (inferInstanceAs (Sz (List t.De))) (inferInstanceAs (Sh (List t.De))):=fun x g=>by
 have g1:List.length x*mb t≤140737488351232:=g.1
 have g2:List.length x*1≤List.length x*mb t:=Nat.mul_le_mul_left _ (Q09 t)
 exact⟨Q49 (by omega) fun y hy=>(h y (g.2 y hy)).1,⟨fun y hy=>(h y (g.2 y hy)).2⟩⟩
theorem gsP{a b:Ty}{i:Sz a.De}{j:Sh a.De}{k:Sz b.De}{l:Sh b.De}(h:GS a i j)(h2:GS b k l):GS (.pr a b) (inferInstanceAs (Sz (a.De×b.De))) (inferInstanceAs (Sh (a.De×b.De))):=fun x g=>⟨XO.2 ⟨(h x.1 g.1).1,(h2 x.2 g.2).1⟩,(h x.1 g.1).2,(h2 x.2 g.2).2⟩
theorem gsR{t:Ty}:GS (.rose t) (inferInstanceAs (Sz (K8 t.De))) (inferInstanceAs (Sh (K8 t.De))):=fun x g=>by
 refine⟨?_,True.intro⟩
 obtain⟨n,hn⟩:=g
 revert x
 induction n with
 | zero=>exact fun x h=>h.elim
 | succ n ih =>
  intro x h
  exact Jtd (e:=x) h.2.1 fun y hy=>ih y (h.2.2 y hy)
theorem gsT{t:Ty}{i:Sz t.De}{j:Sh t.De}(h:GS t i j):GS (.st t) i j:=h
theorem Jor:GS Xt (inferInstanceAs (Sz Jb)) (inferInstanceAs (Sh Jb)):=gsR
theorem Jos:GS Zn (inferInstanceAs (Sz Xj)) (inferInstanceAs (Sh Xj)):=gsT (gsP gsI (gsP gsI gsI))
theorem Jdl:GS Vq (inferInstanceAs (Sz Qo)) (inferInstanceAs (Sh Qo)):=gsT (gsP gsI (gsP gsI gsI))
theorem Qyh:GS J9 (inferInstanceAs (Sz Qe)) (inferInstanceAs (Sh Qe)):=gsT (gsP gsI gsI)
theorem Jmb:GS Jr (inferInstanceAs (Sz Ql)) (inferInstanceAs (Sh Ql)):=gsT (gsP gsI (gsP gsI (gsP gsI (gsP gsI (gsP gsS (gsP gsS gsI))))))
theorem Jot:GS V7 (inferInstanceAs (Sz Q4)) (inferInstanceAs (Sh Q4)):=gsT (gsP gsS (gsL gsS))
theorem Jou:GS Uh (inferInstanceAs (Sz Jg)) (inferInstanceAs (Sh Jg)):=gsT (gsP gsS (gsL Jos))
theorem Jov:GS Xs (inferInstanceAs (Sz Y7)) (inferInstanceAs (Sh Y7)):=gsT (gsP gsI (gsP gsS (gsP gsS (gsP gsI (gsL Jdl)))))
theorem Q60:GS Up (inferInstanceAs (Sz Ji)) (inferInstanceAs (Sh Ji)):=gsT (gsP gsS (gsP Jor gsI))
theorem Jgo:GS Ym (inferInstanceAs (Sz Qx)) (inferInstanceAs (Sh Qx)):=gsT (gsP gsS (gsP gsI (gsP gsB (gsP (gsL Jot) (gsP (gsL Jou) (gsP (gsL Jov) (gsL Q60)))))))
theorem Jgp:GS Zk (inferInstanceAs (Sz Yn)) (inferInstanceAs (Sh Yn)):=gsT (gsP gsI (gsP (gsL gsS) (gsP gsI (gsP gsI (gsP gsI gsB)))))
theorem Jai:GS J8 (inferInstanceAs (Sz Qn)) (inferInstanceAs (Sh Qn)):=gsT (gsP gsS (gsP gsI (gsP gsI (gsP gsS (gsP gsB (gsL Jgp))))))
theorem Jte:GS Fd (inferInstanceAs (Sz Hp)) (inferInstanceAs (Sh Hp)):=gsT (gsP gsS (gsP gsI gsI))
theorem Q1a:GS Vh (inferInstanceAs (Sz Q2)) (inferInstanceAs (Sh Q2)):=gsT (gsP gsI (gsP gsI (gsP gsB (gsP Qyh (gsP (gsL Jdl) gsI)))))
theorem Jow:GS Ks (inferInstanceAs (Sz Qt)) (inferInstanceAs (Sh Qt)):=gsT (gsP (gsL Jmb) (gsP (gsL Jgo) (gsP (gsL Jai) (gsP (gsL Jte) (gsP (gsL gsI) (gsL Q1a))))))
theorem Jgq:GS Ja (inferInstanceAs (Sz Qa)) (inferInstanceAs (Sh Qa)):=gsT (gsP gsI (gsP gsI (gsP gsS (gsP gsI (gsP gsI (gsP (gsL gsS) (gsP Qyh (gsP gsI (gsP gsI (gsP gsI gsB))))))))))
theorem Jgr:GS Ya (inferInstanceAs (Sz Qc)) (inferInstanceAs (Sh Qc)):=gsT (gsP gsI (gsP gsI (gsP gsI (gsP gsI gsI))))
theorem Jaj:GS Uq (inferInstanceAs (Sz Qd)) (inferInstanceAs (Sh Qd)):=gsT (gsP gsI (gsP gsI (gsP gsI (gsP gsI gsI))))
theorem Jmc:GS Yh (inferInstanceAs (Sz Qr)) (inferInstanceAs (Sh Qr)):=gsT (gsP (gsL Jgq) (gsP (gsL Jgr) (gsL Jaj)))
theorem Jak:GS Yz (inferInstanceAs (Sz Jy)) (inferInstanceAs (Sh Jy)):=gsT (gsP gsI (gsP gsI (gsP gsI (gsP gsI (gsP gsI (gsP gsI (gsP gsS (gsP gsI gsI))))))))
theorem Ju9:GS Ui (inferInstanceAs (Sz Vy)) (inferInstanceAs (Sh Vy)):=gsT (gsP Jak gsB)
theorem Jox:GS Zy (inferInstanceAs (Sz Yt)) (inferInstanceAs (Sh Yt)):=gsT (gsP Jow (gsP Jmc (gsL Ju9)))
theorem Jdm:IntKind.i64.max=9223372036854775807:=rfl
theorem Jdn:IntKind.i64.min = -9223372036854775808:=rfl
theorem Qul(x0:Yt)(g0:gz Zy x0):∃N,Uy N x0=some true:=⟨18446744073709551616,by
 have:Ig 18446744073709551616:=⟨QU _⟩
 have h:=Jox x0 g0
 have hop:∀o∈x0.2.2,gz Ui o:=g0.2.2.2
 refine Jvx h.1 h.2 ?_ ?_ ⟨fun a ha=>?_⟩ ⟨fun o ho=>?_⟩ fun o ho=>?_
 ·have h1:x0.1.2.2.2.1.length*32≤140737488351232:=g0.1.2.2.2.1.1
  omega
 ·have h1:x0.1.2.2.2.2.2.length*72≤140737488351232:=g0.1.2.2.2.2.2.1
  omega
 ·have h1:a.2.2.2.2.1.length*24≤140737488351232:=(g0.1.2.2.2.2.2.2 a ha).2.2.2.2.1.1
  omega
 ·have h1:Qoh .i64 o.1.2.2.2.1:=(hop o ho).1.2.2.2.1
  simp only[Qoh,Jdn,Jdm]at h1; omega
 ·have h1:Qoh .i64 o.1.1:=(hop o ho).1.1
  simp only[Qoh,Jdn,Jdm]at h1
  unfold Ho
  simp only[QQ,decide_eq_true_eq]; omega⟩
end Gx
