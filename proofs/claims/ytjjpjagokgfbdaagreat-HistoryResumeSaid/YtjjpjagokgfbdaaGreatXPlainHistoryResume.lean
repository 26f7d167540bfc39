/- The plain laws for HistoryResume. -/
import Derived.Test.YtjjpjagokgfbdaaGreatXFns
import Derived.Test.YtjjpjagokgfbdaaGreatGRows
import Derived.Lib.RowBridge
import Derived.Test.YtjjpjagokgfbdaaGreatXRn
import Derived.KernelRfl
namespace Gx
open Go Gd
set_option linter.unusedVariables false
set_option linter.unusedSimpArgs false
theorem Qjo{α:Type}{l:List α}{i:Nat}(h:i<l.length):idx l (i:Int)=some l[i]:=Jkb (QU h)
theorem Jid(a b:Nat):((max a b:Nat):Int)=max (a:Int) (b:Int):=by omega
def W{α:Type}(o:Option α)(R:α→Prop):Prop:=∃r,o=some r∧R r
class WP{α:Type}(o:Option α)(T:outParam ((α→Prop)→Prop)):Prop where
 spec:∀R,T R→W o R
class WPf{α β:Type}(f:α→Option β)(T:outParam (α→(β→Prop)→Prop)):Prop where
 spec:∀a R,T a R→W (f a) R
theorem wp{α:Type}{o:Option α}{T:(α→Prop)→Prop}[h:WP o T]{R:α→Prop}(k:T R):W o R:=h.spec R k
theorem W.mono{α:Type}{o:Option α}{R S:α→Prop}(h:W o R)(k:∀r,R r→S r):W o S:=let⟨r,e,hr⟩:=h; ⟨r,e,k r hr⟩
theorem D5{α:Type}{o:Option α}{P:Prop}{Q:α→Prop}(h:P→W o Q):WP o (fun R=>P∧∀r,Q r→R r):=⟨fun R k=>(h k.1).mono k.2⟩
instance wpSome {α:Type} (a:α):WP (some a) (fun R=>R a):=⟨fun R h=>⟨a,rfl,h⟩⟩
instance wpNone {α:Type}:WP (none:Option α) (fun _=>False):=⟨fun _ h=>h.elim⟩
instance wpIte {α:Type} {c:Prop} [Decidable c] {a b:Option α} {A B:(α→Prop)→Prop} [ha:WP a A] [hb:WP b B]:WP (if c then a else b) (fun R=>(c→A R)∧(¬ c→B R)):=⟨fun R h=>by
 split
 ·rename_i hc; exact ha.spec R (h.1 hc)
 ·rename_i hc; exact hb.spec R (h.2 hc)⟩
instance wpBind {α β:Type} {o:Option α} {f:α→Option β} {A:(α→Prop)→Prop} {B:α→(β→Prop)→Prop} [ha:WP o A] [hb:WPf f B]:WP (o.bind f) (fun R=>A fun r=>B r R):=⟨fun R h=>by
 obtain⟨r,e,hr⟩:=ha.spec _ h
 rw[e]; exact hb.spec r R hr⟩
instance (priority:=1100) wpAnd {β:Type} {c:Prop} [Decidable c] {a:Option Bool} {f:Bool→Option β} {A:(Bool→Prop)→Prop} {B C:(β→Prop)→Prop} [ha:WP a A] [hb:WP (f true) B] [hc:WP (f false) C] :
  WP ((if c then a else some false).bind f) (fun R=>(c→A fun b=>b=true→B R)∧(c→A fun _=>True)∧C R):=⟨fun R h=>by
 by_cases h0:c
 ·rw[if_pos h0]
  obtain⟨r,e,hr⟩:=ha.spec _ (h.1 h0)
  rw[e]
  cases r with
  | true=>exact hb.spec R (hr rfl)
  | false=>exact hc.spec R h.2.2
 ·rw[if_neg h0]; exact hc.spec R h.2.2⟩
instance (priority:=1100) wpOr {β:Type} {c:Prop} [Decidable c] {a:Option Bool} {f:Bool→Option β} {A:(Bool→Prop)→Prop} {B C:(β→Prop)→Prop} [ha:WP a A] [hb:WP (f true) B] [hc:WP (f false) C] :
  WP ((if c then some true else a).bind f) (fun R=>(¬ c→A fun b=>b=false→C R)∧(¬ c→A fun _=>True)∧B R):=⟨fun R h=>by
 by_cases h0:c
 ·rw[if_pos h0]; exact hb.spec R h.2.2
 ·rw[if_neg h0]
  obtain⟨r,e,hr⟩:=ha.spec _ (h.1 h0)
  rw[e]
  cases r with
  | true=>exact hb.spec R h.2.2
  | false=>exact hc.spec R (hr rfl)⟩
instance (priority:=1200) wpBindT {α β:Type} {a b:Option α} {f:α→Option β} {A:(β→Prop)→Prop} [ha:WP (a.bind f) A]:WP ((if true=true then a else b).bind f) A:=⟨fun R h=>by rw [if_pos rfl]; exact ha.spec R h⟩
instance (priority:=1200) wpBindF {α β:Type} {a b:Option α} {f:α→Option β} {A:(β→Prop)→Prop} [ha:WP (b.bind f) A]:WP ((if false=true then a else b).bind f) A:=⟨fun R h=>by rw [if_neg (by decide)]; exact ha.spec R h⟩
instance (priority:=1200) wpIteT {α:Type} {a b:Option α} {A:(α→Prop)→Prop} [ha:WP a A]:WP (if true=true then a else b) A:=⟨fun R h=>by rw [if_pos rfl]; exact ha.spec R h⟩
instance (priority:=1200) wpIteF {α:Type} {a b:Option α} {A:(α→Prop)→Prop} [ha:WP b A]:WP (if false=true then a else b) A:=⟨fun R h=>by rw [if_neg (by decide)]; exact ha.spec R h⟩
instance (priority:=1000) wpfVar {α β:Type} {f:α→Option β} {T:α→(β→Prop)→Prop} [h:∀a,WP (f a) (T a)]:WPf f T:=⟨fun a R k=>(h a).spec R k⟩
instance (priority:=900) wpfSum {α β γ:Type} {f:α⊕β→Option γ} {A:α→(γ→Prop)→Prop} {B:β→(γ→Prop)→Prop} [ha:WPf (fun a=>f (.inl a)) A] [hb:WPf (fun b=>f (.inr b)) B] :
  WPf f (fun s R=>(∀a,s=.inl a→A a R)∧(∀b,s=.inr b→B b R)):=⟨fun s R k=>by
 cases s with
 | inl a=>exact ha.spec a R (k.1 a rfl)
 | inr b=>exact hb.spec b R (k.2 b rfl)⟩
instance (priority:=850) wpfPairSum {α β γ δ:Type} {f:(α⊕β)×γ→Option δ} {A:α→γ→(δ→Prop)→Prop} {B:β→γ→(δ→Prop)→Prop} [ha:∀a,WPf (fun c=>f (.inl a,c)) (A a)] [hb:∀b,WPf (fun c=>f (.inr b,c)) (B b)] :
  WPf f (fun p R=>(∀a,p.1=.inl a→A a p.2 R)∧(∀b,p.1=.inr b→B b p.2 R)):=⟨fun p R k=>by
 obtain⟨s,c⟩:=p
 cases s with
 | inl a=>exact(ha a).spec c R (k.1 a rfl)
 | inr b=>exact(hb b).spec c R (k.2 b rfl)⟩
instance (priority:=800) wpfPair {α β γ:Type} {f:α×β→Option γ} {A:α→β→(γ→Prop)→Prop} [h:∀a,WPf (fun b=>f (a,b)) (A a)]:WPf f (fun p R=>A p.1 p.2 R):=⟨fun p R k=>(h p.1).spec p.2 R k⟩
class Sz(α:Type) where
 sz:α→Nat
open Sz
instance:Sz Int:=⟨fun _=>0⟩
instance:Sz Bool:=⟨fun _=>0⟩
instance:Sz Unit:=⟨fun _=>0⟩
instance {α β:Type} [Sz α] [Sz β]:Sz (α×β):=⟨fun p=>max (sz p.1) (sz p.2)⟩
instance {α β:Type} [Sz α] [Sz β]:Sz (α⊕β):=⟨fun p=>match p with | .inl a=>sz a | .inr b=>sz b⟩
def szL{α:Type}[Sz α]:List α→Nat
 | []=>0
 | x::l=>max (sz x) (szL l)
instance {α:Type} [Sz α]:Sz (List α):=⟨fun l=>max l.length (szL l)⟩
instance (priority:=2000) szStr:Sz (List UInt8):=⟨fun _=>0⟩
mutual
def rsz{α:Type}:Kk α→Nat
 | .mk _ ks=>max ks.length (Q6s ks)
def Q6s{α:Type}:List (Kk α)→Nat
 | []=>0
 | x::l=>max (rsz x) (Q6s l)
end
instance {α:Type}:Sz (Kk α):=⟨rsz⟩
theorem Jie(x:Int):sz x=0:=rfl
section
variable {α β:Type} [Sz α] [Sz β]
theorem Qo0(p:α×β):sz p=max (sz p.1) (sz p.2):=rfl
theorem Xp{l:List α}:l.length≤sz l:=KM _ _
theorem Jp5{l:List α}:szL l≤sz l:=ZR _ _
theorem Q9x:∀{l:List α} {x:α},x∈l→sz x≤szL l
 | y::l,x,h=>by
  rcases QX.1 h with rfl | h
  ·exact KM _ _
  ·exact QN (Q9x h) (ZR _ _)
theorem Qsf{l:List α}{x:α}(h:x∈l):sz x≤sz l:=QN (Q9x h) Jp5
theorem Qsg{K:Nat}:∀{l:List α},(∀x∈l,sz x≤K)→szL l≤K
 | [],_=>JB _
 | x::l,h=>VJ.2 ⟨h x (.head _),Qsg fun y hy=>h y (.tail _ hy)⟩
theorem Jif{K:Nat}{l:List α}(hl:l.length≤K)(h:∀x∈l,sz x≤K):sz l≤K:=VJ.2 ⟨hl,Qsg h⟩
theorem Jig{l m:List α}(hl:l.length≤m.length)(h:∀x∈l,x∈m):sz l≤sz m:=Jif (QN hl Xp) fun x hx=>Qsf (h x hx)
theorem Jih:sz ([]:List α)=0:=rfl
theorem Qsh:∀l m:List α,szL (l++m)=max (szL l) (szL m)
 | [],m=>by simp[szL]
 | x::l,m=>by simp only[QA,szL,Qsh l m]; omega
theorem Jcn(l m:List α):sz (l++m)=max (l.length+m.length) (max (sz l) (sz m)):=by
 show max (l++m).length (szL (l++m))=max _ (max (max l.length (szL l)) (max m.length (szL m)))
 rw[QI,Qsh]; omega
theorem Qa7(x:α)(l:List α):sz (x::l)=max (l.length+1) (max (sz x) (sz l)):=by
 show max (l.length+1) (max (sz x) (szL l))=max _ (max _ (max l.length (szL l)))
 omega
theorem Q9y:∀(l:List α) (i:Nat) (x:α),szL (l.set i x)≤max (szL l) (sz x)
 | [],i,x=>JB _
 | y::l,0,x=>by simp only[List.set_cons_zero,szL]; omega
 | y::l,i+1,x=>by
  have:=Q9y l i x
  simp only[List.set_cons_succ,szL]; omega
theorem Qa8(l:List α)(i:Nat)(x:α):sz (l.set i x)≤max (sz l) (sz x):=by
 have h1:=Q9y l i x
 show max (l.set i x).length (szL (l.set i x))≤max (max l.length (szL l)) (sz x)
 rw[List.length_set]; omega
theorem Qhs{α:Type}{e:Kk α}:sz e.ks≤sz e:=by
 have:∀l:List (Kk α),szL l=Q6s l:=fun l=>by
  induction l with
  | nil=>rfl
  | cons x l ih=>simp only[szL,Q6s,ih]; rfl
 cases e with
 | mk x ks =>
  show max ks.length (szL ks)≤rsz (.mk x ks)
  rw[this]; simp only[rsz]; exact QD _
end
class Qei(α:Type)[Sz α]:Prop where
 flat:∀x:α,sz x=0
instance:Qei Int:=⟨fun _=>rfl⟩
instance:Qei Bool:=⟨fun _=>rfl⟩
instance (priority:=2000):Qei (List UInt8):=⟨fun _=>rfl⟩
instance {α β:Type} [Sz α] [Sz β] [ha:Qei α] [hb:Qei β]:Qei (α×β):=⟨fun x=>by rw [Qo0,ha.flat,hb.flat]; rfl⟩
theorem Jlj{α:Type}[Sz α][h:Qei α](l:List α):sz l=l.length:=by
 have:szL l≤0:=Qsg fun x _=>KK (h.flat x)
 show max l.length (szL l)=l.length
 omega
structure Qjp{α:Type}(P:α→Prop)(l:List α)(v:Int):Prop where
 at_:∀j:Nat,(j:Int)<v→∀a,l[j]?=some a→P a
theorem Qa9{α:Type}{P:α→Prop}{l:List α}:Qjp P l 0:=⟨fun j h=>by omega⟩
theorem Qba{α:Type}{P:α→Prop}{l:List α}{v:Int}{x:α}(h0:0≤v)(h:Qjp P l v)(hx:l[v.toNat]?=some x)(px:P x):Qjp P l (v+1):=⟨fun j hj a ha=>by
 by_cases hjv:(j:Int)<v
 ·exact h.at_ j hjv a ha
 ·have:j=v.toNat:=by omega
  subst this; rw[hx]at ha; exact Option.some.inj ha▸px⟩
theorem Qe1{α:Type}{P:α→Prop}{l:List α}{v:Int}(h:Qjp P l v)(hl:l.length≤v):∀a∈l,P a:=fun a ha=>by
 obtain⟨i,hi,e⟩:=KR ha
 exact h.at_ i (by omega) a (by rw[QU hi,e])
theorem Qyf{α:Type}[Sz α]{B:Int}{l:List α}(h:∀y∈l,(sz y:Int)≤B)(h0:0≤B):(szL l:Int)≤B:=by
 have:=Qsg (K:=B.toNat) fun x hx=>by have:=h x hx; omega
 omega
theorem Nt{α:Type}[Sz α](l:List α):sz l=max l.length (szL l):=rfl
class Sh(α:Type) where
 sh:α→Prop
open Sh
instance:Sh Int:=⟨fun _=>True⟩
instance:Sh Bool:=⟨fun _=>True⟩
instance:Sh Unit:=⟨fun _=>True⟩
instance {α β:Type} [Sh α] [Sh β]:Sh (α×β):=⟨fun p=>sh p.1∧sh p.2⟩
instance {α β:Type} [Sh α] [Sh β]:Sh (α⊕β):=⟨fun p=>match p with | .inl a=>sh a | .inr b=>sh b⟩
structure ShL{α:Type}[Sh α](l:List α):Prop where
 all:∀x∈l,sh x
instance {α:Type} [Sh α]:Sh (List α):=⟨ShL⟩
instance (priority:=2000) shStr:Sh (List UInt8):=⟨fun s=>s.length≤9223372036854775807⟩
instance {α:Type}:Sh (Kk α):=⟨fun _=>True⟩
theorem Jp6{α:Type}[Sh α]{l:List α}{x:α}(h:x∈l)(hl:sh l):sh x:=hl.all x h
theorem Qht{x:List UInt8}(h:sh x):x.length≤9223372036854775807:=h
theorem Jco{α:Type}[Sh α](l m:List α):sh (l++m)=(sh l∧sh m):=propext ⟨fun h=>⟨⟨fun x hx=>h.all x (QZ _ hx)⟩,⟨fun x hx=>h.all x (QV _ hx)⟩⟩,fun h=>⟨fun x hx=>(QW.1 hx).elim (h.1.all x) (h.2.all x)⟩⟩
theorem Jlk{α:Type}[Sh α](x:α)(l:List α):sh (x::l)=(sh x∧sh l):=propext ⟨fun h=>⟨h.all x (.head _),⟨fun y hy=>h.all y (.tail _ hy)⟩⟩,fun h=>⟨fun y hy=>(QX.1 hy).elim (fun e=>e▸h.1) (h.2.all y)⟩⟩
theorem Qhu{α:Type}[Sh α]{l:List α}{i:Nat}{x:α}(hl:sh l)(hx:sh x):sh (l.set i x):=⟨fun y hy=>(VV hy).elim (hl.all y) (fun e=>e▸hx)⟩
theorem Qe2{α:Type}[Sz α]{K:Int}{l:List α}{i:Nat}{x:α}(h1:(sz l:Int)≤K)(h2:(sz x:Int)≤K):((sz (l.set i x):Nat):Int)≤K:=by
 have:=Qa8 l i x
 omega
theorem Qe3{α:Type}[Sz α]{K:Nat}{l:List α}{i:Nat}{x:α}(h1:sz l≤K)(h2:sz x≤K):sz (l.set i x)≤K:=by
 have:=Qa8 l i x
 omega
section
variable {V:Type} [Sz V]
theorem C3(key:Int)(v:V):∀m:List (Int×V),sz (Ya (k:=.int .i64) key v m:List (Int×V))≤max (sz m+1) (sz v)
 | []=>by
  show sz [((key,v):Int×V)]≤_
  rw[Qa7,Qo0]; simp only[Jie,Jih,JO]; omega
 | x::m=>by
  have ih:=C3 key v m
  unfold Ya
  cases h:eqK (.int .i64) key x.1 with
  | true =>
   show sz ((key,v)::m:List (Int×V))≤_
   rw[Qa7,Qa7,Qo0]; simp only[Jie]; omega
  | false =>
   show sz (x::(Ya (k:=.int .i64) key v m:List (Int×V)))≤_
   rw[Qa7,Qa7]
   have:=Xp (l:=(Ya (k:=.int .i64) key v m:List (Int×V)))
   have h2:(Ya (k:=.int .i64) key v m:List (Int×V)).length≤m.length+1:=by
    clear ih h this
    induction m with
    | nil=>exact QD _
    | cons y m ih =>
     unfold Ya
     cases eqK (.int .i64) key y.1 with
     | true=>exact VU _
     | false=>exact ZB ih
   omega
theorem D6{W:Type}(key:Int)(v:W):∀m:List (Int×W),(Ya (k:=.int .i64) key v m).length≤m.length+1
 | []=>QD _
 | x::m=>by
  have ih:=D6 key v m
  unfold Ya
  cases eqK (.int .i64) key x.1 with
  | true=>exact VU _
  | false=>exact ZB ih
theorem D7{W:Type}(key:Str)(v:W):∀m:List (Str×W),(Ya (k:=.str) key v m).length≤m.length+1
 | []=>QD _
 | x::m=>by
  have ih:=D7 key v m
  unfold Ya
  cases eqK .str key x.1 with
  | true=>exact VU _
  | false=>exact ZB ih
theorem D8{W:Type}(key:Str):∀m:List (Str×W),(Lh (k:=.str) key m).length≤m.length
 | []=>QD _
 | x::m=>by
  have ih:=D8 key m
  unfold Lh
  cases eqK .str key x.1 with
  | true=>exact VU _
  | false=>exact ZB ih
theorem A1{W:Type}(key:Int):∀m:List (Int×W),(Lh (k:=.int .i64) key m).length≤m.length
 | []=>QD _
 | x::m=>by
  have ih:=A1 key m
  unfold Lh
  cases eqK (.int .i64) key x.1 with
  | true=>exact VU _
  | false=>exact ZB ih
theorem Q2u{W:Type}{key:Int}{y:Int×W}:∀{m:List (Int×W)},y∈(Lh (k:=.int .i64) key m:List (Int×W))→y∈m
 | x::m,h=>by
  unfold Lh at h
  cases hk:eqK (.int .i64) key x.1 with
  | true=>rw[hk]at h; exact .tail _ h
  | false =>
   rw[hk]at h
   rcases QX.1 h with h | h
   ·exact h▸.head _
   ·exact .tail _ (Q2u h)
theorem Qbb(key:Int)(m:List (Int×V)):sz (Lh (k:=.int .i64) key m:List (Int×V))≤sz m:=Jig (A1 key m) fun _ h=>Q2u h
theorem A3(key:Int)(d:V):∀m:List (Int×V),sz ((Qr (k:=.int .i64) key m).getD d)≤max (sz m) (sz d)
 | []=>ZR _ _
 | x::m=>by
  have ih:=A3 key d m
  unfold Qr
  rw[Qa7,Qo0]
  cases eqK (.int .i64) key x.1 with
  | true=>show sz x.2≤_; omega
  | false=>show sz ((Qr (k:=.int .i64) key m).getD d)≤_; omega
end
theorem Qsi(x:Int):eqK (.int .i64) x x=true:=by simp[eqK]
theorem Qgc(x:Str):eqK .str x x=true:=by simp[eqK]
class X4(N:Nat):Prop where
 le:18446744073709551616≤N
section
variable {α β σ τ:Type}
instance wpIdx [Sz α] [Sh α] {l:List α} {i:Int}:WP (idx l i) (fun R=>(0≤i∧i<l.length)∧∀x,x∈l→sz x≤sz l→(Sh.sh l→Sh.sh x)→l[i.toNat]?=some x→R x):=⟨fun R h=>by
 obtain⟨⟨h0,h1⟩,hR⟩:=h
 have hi:i.toNat<l.length:=by omega
 have hm:l[i.toNat]∈l:=VA hi
 refine⟨l[i.toNat],?_,hR _ hm (Qsf hm) (Jp6 hm) (QU hi)⟩
 unfold idx
 rw[if_pos h0,QU hi]⟩
instance wpSidx {s:Str} {i:Int}:WP (B5 s i) (fun R=>(0≤i∧i<s.length)∧∀x,0≤x→x<256→R x):=⟨fun R h=>by
 obtain⟨⟨h0,h1⟩,hR⟩:=h
 have hi:i.toNat<s.length:=by omega
 refine⟨((s[i.toNat]).toNat:Int),?_,hR _ (by omega) (by have:=UInt8.toNat_lt s[i.toNat]; omega)⟩
 unfold B5 idx
 rw[if_pos h0,QU hi]; rfl⟩
instance wpSlc [Sz α] [Sh α] {l:List α} {a b:Int}:WP (slc l a b) (fun R=>(0≤a∧a≤b∧b≤l.length)∧∀s,(s.length:Int)=b - a→(∀x∈s,x∈l)→sz s≤sz l→(Sh.sh l→Sh.sh s)→R s):=⟨fun R h=>by
 obtain⟨⟨h0,h1,h2⟩,hR⟩:=h
 have hlen:(((l.drop a.toNat).take (b - a).toNat).length:Int)=b - a:=by rw[QO,JV]; omega
 have hm:∀x∈(l.drop a.toNat).take (b - a).toNat,x∈l:=fun x hx=>List.mem_of_mem_drop (WJ hx)
 refine⟨(l.drop a.toNat).take (b - a).toNat,?_,hR _ hlen hm (Jig (by rw[QO,JV]; omega) hm) (fun h=>⟨fun x hx=>h.all x (hm x hx)⟩)⟩
 unfold slc
 rw[if_pos ⟨h0,h1,h2⟩]⟩
instance wpApp {b:Nat} {l m:List α}:WP (app b l m) (fun R=>(l.length+m.length)*b≤140737488355328∧R (l++m)):=⟨fun R h=>⟨l++m,by unfold app; rw [if_pos h.1],h.2⟩⟩
instance wpMkL {b:Nat} {l c:Int} {z:α}:WP (mkL b l c z) (fun R=>(0≤l∧l≤c∧(b:Int)*c≤281474976710656)∧R (List.replicate l.toNat z)):=⟨fun R h=>⟨_,by unfold mkL; rw [if_pos h.1],h.2⟩⟩
instance wpQuo {k:IntKind} {x y:Int}:WP (Qj3 k x y) (fun R=>y≠0∧R (k.wrap (x.tdiv y))):=⟨fun R h=>⟨_,by unfold Qj3; rw [if_neg h.1],h.2⟩⟩
instance wpRem {x y:Int}:WP (Qww x y) (fun R=>y≠0∧R (x.tmod y)):=⟨fun R h=>⟨_,by unfold Qww; rw [if_neg h.1],h.2⟩⟩
instance wpShr {k:IntKind} {x y:Int}:WP (Jaw k x y) (fun R=>0≤y∧∀r,R r):=⟨fun R h=>⟨_,by unfold Jaw; rw [if_neg (by omega)],h.2 _⟩⟩
instance wpShl {k:IntKind} {x y:Int}:WP (Jax k x y) (fun R=>0≤y∧∀r,R r):=⟨fun R h=>⟨_,by unfold Jax; rw [if_neg (by omega)],h.2 _⟩⟩
instance wpScat {a b:Str}:WP (Jj4 a b) (fun R=>a.length+b.length≤9223372036854775807∧R (a++b)):=⟨fun R h=>⟨_,by unfold Jj4; rw [if_pos h.1],h.2⟩⟩
instance wpChk {b:Bool}:WP (chk b) (fun R=>b=true∧R ()):=⟨fun R h=>⟨(),by rw [h.1]; rfl,h.2⟩⟩
theorem Jp7{f:σ→α→Option σ}{es:List α}(I:Int→σ→Prop)(step:∀(n:Int) s e,e∈es→0≤n→n<es.length→I n s→W (f s e) (I (n+1))){s:σ}:WP (Qmk f es s) (fun R=>I 0 s∧∀r,I es.length r→R r):=D5 fun h=>by
 have main:∀(l:List α) (n:Int) (s:σ),(∀e∈l,e∈es)→0≤n→n+l.length=es.length→I n s→W (Qmk f l s) (I es.length):=by
  intro l
  induction l with
  | nil=>intro n s hm h0 hn hI; exact⟨s,rfl,by rw[←hn]; simpa using hI⟩
  | cons x l ih =>
   intro n s hm h0 hn hI
   simp only[JI]at hn
   obtain⟨s1,e1,h1⟩:=step n s x (hm x (.head _)) h0 (by omega) hI
   show W ((f s x).bind fun s'=>Qmk f l s') _
   rw[e1]
   exact ih (n+1) s1 (fun e he=>hm e (.tail _ he)) (by omega) (by omega) h1
 exact main es 0 s (fun _ h=>h) (KL _) (by simp) h
theorem Q6t{f:σ→Option (σ⊕τ)}{N:Nat}[hN:X4 N](μ:σ→Nat)(I:σ→Prop)(Q:τ→Prop)(hμ:∀s,I s→μ s<18446744073709551616)
  (step:∀s,I s→W (f s) fun r=>match r with | .inl s'=>I s'∧μ s'<μ s | .inr t=>Q t) (s:σ):WP (Qf f N s) (fun R=>I s∧∀r,Q r→R r):=D5 fun h=>by
 have main:∀(k n:Nat) (s:σ),I s→μ s≤k→k<n→W (Qf f n s) Q:=by
  intro k
  induction k with
  | zero =>
   intro n s hI hk hn
   obtain⟨m,rfl⟩:∃m,n=m+1:=⟨n - 1,by omega⟩
   obtain⟨r,e,hr⟩:=step s hI
   cases r with
   | inl s'=>exact absurd hr.2 (by omega)
   | inr t=>exact⟨t,by simp[Qf,e],hr⟩
  | succ k ih =>
   intro n s hI hk hn
   obtain⟨m,rfl⟩:∃m,n=m+1:=⟨n - 1,by omega⟩
   obtain⟨r,e,hr⟩:=step s hI
   cases r with
   | inl s' =>
    obtain⟨t,e2,ht⟩:=ih m s' hr.1 (by have:=hr.2; omega) (by omega)
    exact⟨t,by simp[Qf,e,e2],ht⟩
   | inr t=>exact⟨t,by simp[Qf,e],hr⟩
 exact main (μ s) N s h (QD _) (JU (hμ s h) hN.le)
theorem ss:(∀(p:Prop) [Decidable p],(decide p=true)=p)∧(∀(p:Prop) [Decidable p],(decide p=false)=¬ p)∧(∀b:Bool,(¬ b=true)=(b=false))∧(∀a b:Bool,((a&&b)=true)=(a=true∧b=true))∧(∀a b:Bool,((a||b)=true)=(a=true∨b=true)) ∧
  (∀b:Bool,((!b)=true)=(b=false))∧(∀b:Bool,((!b)=false)=(b=true))∧(∀a b:Bool,((a&&b)=false)=(a=true→b=false))∧(∀a b:Bool,((a||b)=false)=(a=false∧b=false)) ∧
  (∀a b:Int,((a==b)=true)=(a=b))∧(∀a b:Int,((a==b)=false)=¬ a=b)∧(∀a b:Int,((a != b)=true)=¬ a=b)∧(∀a b:Int,((a != b)=false)=(a=b))∧(∀p q:Prop,(¬ (p∧q))=(p→¬ q))∧(∀p q:Prop,(¬ (p∨q))=(¬ p∧¬ q)):=by
 refine⟨?_,?_,?_,?_,?_,?_,?_,?_,?_,?_,?_,?_,?_,?_,?_⟩
 all_goals intros
 all_goals simp
theorem sz1:(∀(α β:Type) [Sz α] [Sz β] (p:α×β),sz p=max (sz p.1) (sz p.2))∧(∀x:Int,sz x=0)∧(∀x:Bool,sz x=0)∧(∀x:Unit,sz x=0)∧(∀x:List UInt8,sz x=0)∧(∀(α β:Type) [Sz α] [Sz β] (a:α),sz (Sum.inl a:α⊕β)=sz a) ∧
  (∀(α β:Type) [Sz α] [Sz β] (b:β),sz (Sum.inr b:α⊕β)=sz b)∧(∀(α:Type) [Sz α] [Qei α] (l:List α),sz l=l.length) ∧
  (∀(α:Type) [Sz α] (l m:List α),sz (l++m)=max (l.length+m.length) (max (sz l) (sz m)))∧(∀(α:Type) [Sz α] (x:α) (l:List α),sz (x::l)=max (l.length+1) (max (sz x) (sz l)))∧(∀(α:Type) [Sz α],sz ([]:List α)=0) :=
 ⟨fun _ _ _ _ _=>rfl,fun _=>rfl,fun _=>rfl,fun _=>rfl,fun _=>rfl,fun _ _ _ _ _=>rfl,fun _ _ _ _ _=>rfl,fun _ _ _ l=>Jlj l,fun _ _=>Jcn,fun _ _=>Qa7,fun _ _=>rfl⟩
theorem sh1:(∀(α β:Type) [Sh α] [Sh β] (p:α×β),Sh.sh p=(Sh.sh p.1∧Sh.sh p.2))∧(∀x:Int,Sh.sh x=True)∧(∀x:Bool,Sh.sh x=True)∧(∀x:Unit,Sh.sh x=True)∧(∀(α:Type) (x:Kk α),Sh.sh x=True)∧(∀(α β:Type) [Sh α] [Sh β] (a:α),Sh.sh (Sum.inl a:α⊕β)=Sh.sh a) ∧
  (∀(α β:Type) [Sh α] [Sh β] (b:β),Sh.sh (Sum.inr b:α⊕β)=Sh.sh b)∧(∀(α:Type) [Sh α] (l m:List α),Sh.sh (l++m)=(Sh.sh l∧Sh.sh m))∧(∀(α:Type) [Sh α] (x:α) (l:List α),Sh.sh (x::l)=(Sh.sh x∧Sh.sh l))∧(∀(α:Type) [Sh α],Sh.sh ([]:List α)=True)∧Sh.sh ([]:List UInt8)=True :=
 ⟨fun _ _ _ _ _=>rfl,fun _=>rfl,fun _=>rfl,fun _=>rfl,fun _ _=>rfl,fun _ _ _ _ _=>rfl,fun _ _ _ _ _=>rfl,fun _ _=>Jco,fun _ _=>Jlk,fun _ _=>propext ⟨fun _=>trivial,fun _=>⟨fun _ h=>by cases h⟩⟩,propext ⟨fun _=>trivial,fun _=>by show([]:List UInt8).length≤_; decide⟩⟩
theorem mx1:(∀n:Nat,max 0 n=n)∧(∀n:Nat,max n 0=n)∧(∀a b c:Nat,(max a b≤c)=(a≤c∧b≤c))∧(∀a b:Nat,((max a b:Nat):Int)=max (a:Int) (b:Int))∧(∀a b c:Int,(max a b≤c)=(a≤c∧b≤c)) :=
 ⟨WG,VI,fun _ _ _=>propext VJ,Jid,fun _ _ _=>propext Int.max_le⟩
theorem sS:(((∀(α β:Type) (p:α⊕β→Prop),(∀x,p x)=((∀a,p (.inl a))∧∀b,p (.inr b)))∧(∀(α β:Type) (a b:α),((Sum.inl a:α⊕β)=.inl b)=(a=b))∧(∀(α β:Type) (a b:β),((Sum.inr a:α⊕β)=.inr b)=(a=b))∧(∀(α:Type) (p:α→Prop) (a:α),(∀b,a=b→p b)=p a)∧(∀(α:Type) (p:α→Prop) (a:α),(∀b,b=a→p b)=p a)) ∧
  (∀p:Prop,(False→p)=True)∧(∀α:Type,(α→True)=True)∧(∀p:Prop,(p→True)=True)∧(∀p:Prop,(True→p)=p)∧(∀p:Prop,(p∧True)=p)∧(∀p:Prop,(True∧p)=p)∧(∀(α:Type) [Nonempty α] (p:Prop),(α→p)=p)∧(∀(α:Type) [BEq α] [LawfulBEq α] (a b:α),((a==b)=true)=(a=b))∧(∀(α:Type) [BEq α] [LawfulBEq α] (a b:α),((a != b)=true)=(a≠b))∧(∀(α:Type) (a b:α),(a≠b)=¬ (a=b)) ∧
  (∀(α:Type) (l m:List α),(l++m).length=l.length+m.length)∧(∀(α:Type) (x:α) (l:List α),(x::l).length=l.length+1)∧(∀(α:Type),([]:List α).length=0)∧(∀(α:Type) (l:List α) (i:Nat) (x:α),(l.set i x).length=l.length)∧(∀(α:Type) (l:List α),[]++l=l)∧∀n:Nat,0+n=n)∧(type_of% ss)∧(type_of% sz1)∧(type_of% sh1)∧type_of% mx1:=by
 refine⟨⟨⟨fun _ _ p=>propext Sum.forall,?_,?_,?_,?_⟩,?_,?_,?_,?_,?_,?_,fun _ _ _=>propext (forall_const _),fun _ _ _ a b=>propext beq_iff_eq,fun _ _ _ a b=>propext bne_iff_ne,?_,?_,?_,?_,?_,?_,?_⟩,ss,sz1,sh1,mx1⟩
 all_goals simp
theorem lv{P:Prop}(h:P:=by first | assumption | omega | exact Qa9 | ((simp (disch:=omega) only [Q2] at *)<;>omega) | ((first | refine Qe2 ?_ ?_ | refine Qe3 ?_ ?_)<;>(try simp only [sz1,mx1])<;>first | omega | ((simp (disch:=omega) only [Q2] at *)<;>omega)) | exact QN Xp (by omega) | exact Qsi _ | exact Qgc _ | grind [Nt,Qa8,Qhu,C3,Qbb,A3,D6,D7,A1,D8]):P:=h
theorem mkW {o o':Option α} {T:(α→Prop)→Prop} (e:o=o') [hw:WP o' T] (P:Prop) (Q:α→Prop) (k:P→T Q:=by
  intro h
  try simp only[sS,reduceCtorEq]at *
  repeat' (first | intro _ | apply And.intro)
  all_goals first | assumption | omega | exact Qa9 | ((simp (disch:=omega) only [Q2]at *)<;>omega) | ((first | refine Qe2 ?_ ?_ | refine Qe3 ?_ ?_)<;>(try simp only[sz1,mx1])<;>first | omega | ((simp (disch:=omega) only [Q2]at *)<;>omega)) | exact QN Xp (by omega) | exact Qsi _ | exact Qgc _ | grind [Nt,Qa8,Qhu,C3,Qbb,A3,D6,D7,A1,D8]):WP o (fun R=>P∧∀r,Q r→R r):=D5 fun h=>by rw[e]; exact hw.spec Q (k h)
theorem Jp8{f:σ→Option (σ⊕τ)}{N:Nat}[hN:X4 N](ix:σ→Int)(len:Nat)(I:σ→Prop)(Q:τ→Prop)(hl:∀s,I s→len≤9223372036854775807)
  (step:∀s,I s→0≤ix s→ix s≤len→(ix s<len→IntKind.wrap .i64 (ix s+1)=ix s+1)→W (f s) fun r=>match r with | .inl s'=>I s'∧ix s<len∧ix s'=IntKind.wrap .i64 (ix s+1) | .inr t=>Q t) (s:σ) :
  WP (Qf f N s) (fun R=>(I s∧0≤ix s∧ix s≤len)∧∀r,Q r→R r) :=
 Q6t (fun s=>((len:Int) - ix s).toNat) (fun s=>I s∧0≤ix s∧ix s≤len) Q (fun s h=>by have:=hl s h.1; omega) (fun s h=>by
  have qn:=hl s h.1
  have hw:ix s<len→IntKind.wrap .i64 (ix s+1)=ix s+1:=fun hlt=>by
   exact Q2 (by omega) (by omega)
  refine(step s h.1 h.2.1 h.2.2 hw).mono fun r hr=>?_
  cases r with
  | inl s' =>
   obtain⟨h1,h2,h3⟩:=hr
   rw[hw h2]at h3
   exact⟨⟨h1,by omega,by omega⟩,by omega⟩
  | inr t=>exact hr) s
theorem upL {f f':σ→Option (σ⊕τ)} {B:σ→(σ⊕τ→Prop)→Prop} (e:∀s,f s=f' s) [hf:WPf f' B] {N:Nat} [hN:X4 N] (ix:σ→Int) (len:Nat) (I:σ→Prop) (Q:τ→Prop) (hl:∀s,I s→len≤9223372036854775807:=by
  intro s h
  try simp only[sz1,sh1,mx1]at *
  first | omega | exact QN Xp (by omega) | grind [Nt])
  (step:∀s,I s→0≤ix s→ix s≤len→len≤9223372036854775807→(ix s<len→IntKind.wrap .i64 (ix s+1)=ix s+1)→B s (fun r=>match r with | .inl s'=>I s'∧ix s<len∧ix s'=IntKind.wrap .i64 (ix s+1) | .inr t=>Q t):=by
  intro s h h0 h1 h2 hw
  try simp only[sS,reduceCtorEq]at *
  repeat' (first | intro _ | apply And.intro)
  all_goals first | assumption | omega | ((simp (disch:=omega) only [Q2]at *)<;>omega) | ((first | refine Qe2 ?_ ?_ | refine Qe3 ?_ ?_)<;>(try simp only[sz1,mx1])<;>first | omega | ((simp (disch:=omega) only [Q2]at *)<;>omega)) | exact QN Xp (by omega) | exact Qsi _ | exact Qgc _ | grind [Nt,Qa8,Qhu,C3,Qbb,A3,D6,D7,A1,D8]) {s:σ} :
  WP (Qf f N s) (fun R=>(I s∧0≤ix s∧ix s≤len)∧∀r,Q r→R r):=Jp8 ix len I Q hl (fun s h h0 h1 hw=>by rw[e s]; exact hf.spec s _ (step s h h0 h1 (hl s h) hw)) s
theorem Qlt {α ε:Type} {f f':Int→Option (Int⊕(Unit⊕ε))} {B:Int→(Int⊕(Unit⊕ε)→Prop)→Prop} (e:∀s,f s=f' s) [hf:WPf f' B] {N:Nat} [hN:X4 N] (l:List α) (I:Prop) (P:α→Prop) (C:Prop) (E:ε→Prop) (hl:I→l.length≤9223372036854775807:=by
  intro h
  try simp only[sz1,sh1,mx1]at *
  first | omega | exact QN Xp (by omega) | grind [Nt])
  (fin:I→(∀y∈l,P y)→C:=by
  intro h zi
  first | exact zi | exact Qyf zi (by omega))
  (step:∀s:Int,I→0≤s→s≤l.length→l.length≤9223372036854775807→(s<l.length→IntKind.wrap .i64 (s+1)=s+1)→B s (fun r=>match r with | .inl s'=>(∃x,l[s.toNat]?=some x∧P x)∧s<l.length∧s'=IntKind.wrap .i64 (s+1) | .inr t=>(∀u,t=.inl u→l.length≤s)∧∀u,t=.inr u→E u):=by
  intro s h h0 h1 h2 hw
  try simp only[sS,reduceCtorEq]at *
  repeat' (first | intro _ | apply And.intro)
  all_goals first | assumption | omega | ((simp (disch:=omega) only [Q2]at *)<;>omega) | (refine⟨_,by assumption,?_⟩; first | assumption | omega | ((simp (disch:=omega) only [Q2]at *)<;>omega) | ((first | refine Qe2 ?_ ?_ | refine Qe3 ?_ ?_)<;>(try simp only[sz1,mx1])<;>first | omega | ((simp (disch:=omega) only [Q2]at *)<;>omega)) | exact QN Xp (by omega) | exact Qsi _ | exact Qgc _ | grind [Nt,Qa8,Qhu,C3,Qbb,A3,D6,D7,A1,D8]) | exact QN Xp (by omega) | exact Qsi _ | exact Qgc _ | grind [Nt,Qa8,Qhu,C3,Qbb,A3,D6,D7,A1,D8]) {s:Int} :
  WP (Qf f N s) (fun R=>(I∧Qjp P l s∧0≤s∧s≤l.length)∧∀r:Unit⊕ε,((∀u,r=.inl u→C)∧∀u,r=.inr u→E u)→R r):=⟨fun R h=>by
 have hw:=Jp8 (f:=f) (N:=N) (fun s=>s) l.length (fun s=>I∧Qjp P l s) (fun r:Unit⊕ε=>(∀u,r=.inl u→C)∧∀u,r=.inr u→E u) (fun s h=>hl h.1) (fun s h h0 h1 hw=>by
  rw[e s]
  refine(hf.spec s _ (step s h.1 h0 h1 (hl h.1) hw)).mono fun r hr=>?_
  cases r with
  | inl s' =>
   obtain⟨x1,x2,x3⟩:=hr
   refine⟨⟨h.1,?_⟩,x2,x3⟩
   rw[x3,hw x2]
   obtain⟨x,y1,y2⟩:=x1
   exact Qba h0 h.2 y1 y2
  | inr t =>
   refine⟨fun u hu=>?_,hr.2⟩
   have wx:=hr.1 u hu
   exact fin h.1 (Qe1 h.2 wx)) s
 exact hw.spec R ⟨⟨⟨h.1.1,h.1.2.1⟩,h.1.2.2⟩,h.2⟩⟩
theorem Jri{f:σ→Option (σ⊕τ)}{N:Nat}[hN:X4 N](ix:σ→Int)(E:Int)(I:σ→Prop)(Q:τ→Prop)(hl:∀s,I s→E≤9223372036854775807)
  (step:∀s,I s→0≤ix s→(ix s<E→IntKind.wrap .i64 (ix s+1)=ix s+1)→W (f s) fun r=>match r with | .inl s'=>I s'∧ix s<E∧ix s'=IntKind.wrap .i64 (ix s+1) | .inr t=>Q t) (s:σ) :
  WP (Qf f N s) (fun R=>(I s∧0≤ix s)∧∀r,Q r→R r) :=
 Q6t (fun s=>(E - ix s).toNat) (fun s=>I s∧0≤ix s) Q (fun s h=>by have:=hl s h.1; omega) (fun s h=>by
  have qn:=hl s h.1
  have hw:ix s<E→IntKind.wrap .i64 (ix s+1)=ix s+1:=fun hlt=>by
   exact Q2 (by omega) (by omega)
  refine(step s h.1 h.2 hw).mono fun r hr=>?_
  cases r with
  | inl s' =>
   obtain⟨h1,h2,h3⟩:=hr
   rw[hw h2]at h3
   exact⟨⟨h1,by omega⟩,by omega⟩
  | inr t=>exact hr) s
theorem upI {f f':σ→Option (σ⊕τ)} {B:σ→(σ⊕τ→Prop)→Prop} (e:∀s,f s=f' s) [hf:WPf f' B] {N:Nat} [hN:X4 N] (ix:σ→Int) (E:Int) (I:σ→Prop) (Q:τ→Prop) (hl:∀s,I s→E≤9223372036854775807:=by
  intro s h
  try simp only[sz1,sh1,mx1]at *
  first | omega | grind [Nt])
  (step:∀s,I s→0≤ix s→(ix s<E→IntKind.wrap .i64 (ix s+1)=ix s+1)→B s (fun r=>match r with | .inl s'=>I s'∧ix s<E∧ix s'=IntKind.wrap .i64 (ix s+1) | .inr t=>Q t):=by
  intro s h h0 hw
  try simp only[sS,reduceCtorEq]at *
  repeat' (first | intro _ | apply And.intro)
  all_goals first | assumption | omega | ((simp (disch:=omega) only [Q2]at *)<;>omega) | ((first | refine Qe2 ?_ ?_ | refine Qe3 ?_ ?_)<;>(try simp only[sz1,mx1])<;>first | omega | ((simp (disch:=omega) only [Q2]at *)<;>omega)) | exact QN Xp (by omega) | exact Qsi _ | exact Qgc _ | grind [Nt,Qa8,Qhu,C3,Qbb,A3,D6,D7,A1,D8]) {s:σ} :
  WP (Qf f N s) (fun R=>(I s∧0≤ix s)∧∀r,Q r→R r):=Jri ix E I Q hl (fun s h h0 hw=>by rw[e s]; exact hf.spec s _ (step s h h0 hw)) s
theorem mkL {f f':σ→Option (σ⊕τ)} {B:σ→(σ⊕τ→Prop)→Prop} (e:∀s,f s=f' s) [hf:WPf f' B] {N:Nat} [hN:X4 N] (μ:σ→Nat) (I:σ→Prop) (Q:τ→Prop) (hμ:∀s,I s→μ s<18446744073709551616:=by
  intro s h
  try simp only[sz1,sh1,mx1]at *
  first | omega | grind [Nt])
  (step:∀s,I s→B s (fun r=>match r with | .inl s'=>I s'∧μ s'<μ s | .inr t=>Q t):=by
  intro s h
  try simp only[sS,reduceCtorEq]at *
  repeat' (first | intro _ | apply And.intro)
  all_goals first | assumption | omega | ((simp (disch:=omega) only [Q2]at *)<;>omega) | ((first | refine Qe2 ?_ ?_ | refine Qe3 ?_ ?_)<;>(try simp only[sz1,mx1])<;>first | omega | ((simp (disch:=omega) only [Q2]at *)<;>omega)) | exact QN Xp (by omega) | exact Qsi _ | exact Qgc _ | grind [Nt,Qa8,Qhu,C3,Qbb,A3,D6,D7,A1,D8]) {s:σ} :
  WP (Qf f N s) (fun R=>I s∧∀r,Q r→R r):=Q6t μ I Q hμ (fun s h=>by rw[e s]; exact hf.spec s _ (step s h)) s
end
mutual
def dpt{α:Type}:Kk α→Nat
 | .mk _ ks=>Jcp ks+1
def Jcp{α:Type}:List (Kk α)→Nat
 | []=>0
 | x::l=>max (dpt x) (Jcp l)
end
theorem Q2v{α:Type}:∀{l:List (Kk α)} {x:Kk α},x∈l→dpt x≤Jcp l
 | y::l,x,h=>by
  rw[Jcp]
  rcases QX.1 h with rfl | h
  ·omega
  ·have:=Q2v h; omega
theorem Jii{α:Type}{e x:Kk α}(h:x∈e.ks):dpt x<dpt e:=by
 cases e with
 | mk a ks=>rw[dpt]; have:=Q2v (l:=ks) h; omega
theorem Q9z{α:Type}{K:Nat}:∀{l:List (Kk α)},(∀x∈l,dpt x≤K)→Jcp l≤K
 | [],_=>JB _
 | x::l,h=>by rw[Jcp]; exact VJ.2 ⟨h x (.head _),Q9z fun y hy=>h y (.tail _ hy)⟩
theorem Jp9{α:Type}{e:Kk α}{K:Nat}(h:∀x∈e.ks,dpt x≤K):dpt e≤K+1:=by
 cases e with
 | mk a ks=>rw[dpt]; have:=Q9z (l:=ks) h; omega
structure Jk{α:Type}(P:α→Prop)(l:List α):Prop where
 all:∀x∈l,P x
structure Ze(x:Ql):Prop where
 deep:∀d∈x.2.2.2.2.2.2,dpt d.2.1≤4096
open Go Gd Sz
set_option linter.defProp false
set_option maxRecDepth 100000
set_option maxHeartbeats 4000000
set_option synthInstance.maxSize 100000
set_option synthInstance.maxHeartbeats 1000000
theorem Jij{α:Type}{e:Kk α}{K:Nat}(h:e.ks.length≤K)(hk:∀y∈e.ks,sz y≤K):sz e≤K:=by
 have:∀l:List (Kk α),szL l=Q6s l:=fun l=>by
  induction l with
  | nil=>rfl
  | cons x l ih=>simp only[szL,Q6s,ih]; rfl
 cases e with
 | mk x ks =>
  have h2:Q6s ks≤K:=by rw[←this]; exact Qsg hk
  show rsz (.mk x ks)≤K
  simp only[rsz]
  have h1:ks.length≤K:=h
  omega
theorem Qvp{N:Nat}[X4 N]:∀(n:Nat) (e:Qj) (d:Int),0≤d→d≤19→20≤n+d→sz e≤9223372036854775807→W (Yh N n e d) fun r=>1≤r∧r≤1000*(20 - d)∧(r<1000→(sz e:Int)≤r∧(dpt e:Int)≤19 - d)
 | 0,e,d,h0,h1,h2,h3=>by omega
 | n+1,e,d,h0,h1,h2,h3=>by
  unfold Yh
  by_cases hd:d>18
  ·rw[if_pos (by simpa using hd)]
   exact⟨1000,rfl,by omega,by omega,by omega⟩
  ·rw[if_neg (by simpa using hd)]
   have hw:IntKind.wrap .i64 (d+1)=d+1:=Q2 (by omega) (by omega)
   have ih:∀x:Qj,WP (Yh N n x (d+1)) (fun R=>sz x≤9223372036854775807∧∀r:Int,(1≤r∧r≤1000*(20 - (d+1))∧(r<1000→(sz x:Int)≤r∧(dpt x:Int)≤19 - (d+1)))→R r):=fun x=>D5 fun h=>Qvp n x (d+1) (by omega) (by omega) (by omega) h
   have hk:=Qhs (e:=e)
   have hlen:=Xp (l:=e.ks)
   have loop:∀s:Int×Int,WP (Qf (Zh N (Yh N n) e d) N s) _:=Jp8 (f:=Zh N (Yh N n) e d) (fun s:Int×Int=>s.2) e.ks.length
    (fun s:Int×Int=>s.2+1≤s.1∧s.1≤1000*(20 - d)∧(s.1<1000→Qjp (fun y=>(sz y:Int)≤s.1∧(dpt y:Int)≤18 - d) e.ks s.2)) (fun r:Int=>1≤r∧r≤1000*(20 - d)∧(r<1000→(sz e:Int)≤r∧(dpt e:Int)≤19 - d)) (fun s h=>by omega) (by
    rintro⟨v1,v2⟩ ⟨i1,i2,i3⟩ js k5 hw2
    simp only at i1 i2 i3 js k5 hw2
    unfold Zh
    simp only[hw]
    refine wp ?_
    simp only[QQ,decide_eq_true_eq]
    refine⟨fun hc=>⟨⟨js,hc.1⟩,fun x hm hs _ hx=>⟨by omega,fun r hr=>?_⟩⟩,fun hc=>?_⟩
    ·have hv:IntKind.wrap .i64 (v1+r)=v1+r:=Q2 (by omega) (by omega)
     rw[hv]
     refine⟨⟨by rw[hw2 hc.1]; omega,by omega,fun hlt=>?_⟩,hc.1,trivial⟩
     rw[hw2 hc.1]
     exact Qba js ⟨fun j hj a ha=>by have:=(i3 hc.2).at_ j hj a ha; exact⟨by omega,this.2⟩⟩ hx (by have:=hr.2.2 (by omega); exact⟨by omega,by omega⟩)
    ·refine⟨by omega,i2,fun hlt=>?_⟩
     have wx:(e.ks.length:Int)≤v2:=by
      rcases Int.lt_or_le v2 e.ks.length with h | h
      ·exact absurd ⟨h,hlt⟩ hc
      ·exact h
     have zi:=Qe1 (i3 hlt) wx
     have h8:=Jij (e:=e) (K:=v1.toNat) (by omega) (fun y hy=>by have:=(zi y hy).1; omega)
     have h9:=Jp9 (e:=e) (K:=(18 - d).toNat) (fun y hy=>by have:=(zi y hy).2; omega)
     exact⟨by omega,by omega⟩)
   have:=loop
   refine wp ?_
   exact⟨⟨⟨by omega,by omega,fun _=>Qa9⟩,by omega,by omega⟩,fun r hr=>hr⟩
instance w_billingref37_Nodes {N:Nat} [hN:X4 N] {x0:Qj} {x1:Int}:WP (Mg N x0 x1) (fun R=>(sz x0≤9223372036854775807∧x1=0)∧∀r:Int,(1≤r∧r≤20000∧(r<1000→(sz x0:Int)≤r∧(dpt x0:Int)≤19))→R r):=D5 (by
  intro h
  have:=hN.le
  exact(Qvp N x0 x1 (by omega) (by omega) (by omega) h.1).mono fun r hr=>⟨hr.1,by omega,fun hl=>by have:=hr.2.2 hl; omega⟩)
variable {N:Nat} [X4 N]
@[reducible,instance] def Qvq{x0 x1}{s}:=Qlt (N:=N) (s:=s) (A9.eq_def N x0 x1) x0.2.2.2.2.2.2 (sz x0≤9223372036854775807∧1≤x1∧x1≤200) (fun y=>(sz y:Int)≤4*x1∧dpt y.2.1≤4096) ((szL x0.2.2.2.2.2.2:Int)≤4*x1∧Ze x0) (fun u=>u=false) (fin:=fun h zi=>⟨Qyf (fun y hy=>(zi y hy).1) (by omega),⟨fun y hy=>(zi y hy).2⟩⟩)
@[reducible,instance] def Qvr{x0 x1}{s}:=Qlt (N:=N) (s:=s) (Ba.eq_def N x0 x1) x0.2.2.2.1 (sz x0≤9223372036854775807∧1≤x1∧x1≤200) (fun y=>(sz y:Int)≤4*x1) ((szL x0.2.2.2.1:Int)≤4*x1) (fun u=>u=false)
@[reducible,instance] def Qvs{x0 x1}{s}:=Qlt (N:=N) (s:=s) (Bb.eq_def N x0 x1) x0.2.2.2.2.2.1 (sz x0≤9223372036854775807∧1≤x1∧x1≤200) (fun y=>(sz y:Int)≤4*x1) ((szL x0.2.2.2.2.2.1:Int)≤4*x1) (fun u=>u=false)
@[reducible,instance] def Qvt{x0 x1}{s}:=Qlt (N:=N) (s:=s) (Bc.eq_def N x0 x1) x0.2.2.2.2.1 (sz x0≤9223372036854775807∧1≤x1∧x1≤200) (fun y=>(sz y:Int)≤4*x1) ((szL x0.2.2.2.2.1:Int)≤4*x1) (fun u=>u=false)
@[reducible,instance] def Q2w{x0 x1}:=mkW (Ek.eq_1 N x0 x1) (sz x0≤9223372036854775807∧1≤x1∧x1≤200) (fun r=>r=true→(sz x0:Int)≤4*x1∧Ze x0)
@[reducible,instance] def Q4h{x0}:=mkW (Wj.eq_1 N x0) (True) (fun r=>r.length=5∧(∀b,r[0]?=some b→(b=true↔(x0=1∨x0=2∨x0=3∨x0=14∨x0=15))))
@[reducible,instance] def Q90{x0}:=mkW (Ec.eq_1 N x0) (True) (fun r=>True)
@[reducible,instance] def Qyg{x0}{s}:=upL (N:=N) (s:=s) (Dd.eq_def N x0) (fun t=>t) x0.length (fun t=>Sh.sh x0) (fun r:((Unit)⊕(Bool))=>True) (fun _ h=>Qht (by grind))
@[reducible,instance] def Q4i{x0}:=mkW (Vj.eq_1 N x0) (Sh.sh x0) (fun r=>True)
@[reducible,instance] def Qvu{x0}{s}:=upL (N:=N) (s:=s) (Bd.eq_def N x0) (fun t=>t) x0.length (fun t=>Sh.sh x0) (fun r:((Unit)⊕(Bool))=>True) (fun _ h=>Qht (by grind))
@[reducible,instance] def Q2x{x0}:=mkW (Xe.eq_1 N x0) (Sh.sh x0) (fun r=>True)
@[reducible,instance] def Q2y{x0}:=mkW (El.eq_1 N x0) (True) (fun r=>True)
@[reducible,instance] def Q4j{x0 x1}:=mkW (F7.eq_1 N x0 x1) (Sh.sh x0) (fun r=>True)
@[reducible,instance] def Qog{x0 x1}{s}:=Qlt (N:=N) (s:=s) (Gf.eq_def N x0 x1) x0.1 (sz x0≤9223372036854775807) (fun y=>y.1≠x1) (∀y∈x0.1,y.1≠x1) (fun u=>0≤u∧u<x0.1.length∧∃a∈x0.1,a.1=x1)
@[reducible,instance] def Qsr{x0 x1}:=mkW (Ua.eq_1 N x0 x1) (sz x0≤9223372036854775807) (fun r => -1≤r∧r<x0.1.length∧(0≤r→∃a∈x0.1,a.1=x1)∧(r<0→∀a∈x0.1,a.1≠x1))
@[reducible,instance] def Qtk{x0 x1}{s}:=Qlt (N:=N) (s:=s) (F8.eq_def N x0 x1) x0.2.1 (sz x0≤9223372036854775807) (fun y=>y.1≠x1) (∀y∈x0.2.1,y.1≠x1) (fun u=>0≤u∧u<x0.2.1.length∧∃a∈x0.2.1,a.1=x1)
@[reducible,instance] def Qy8{x0 x1}:=mkW (Ul.eq_1 N x0 x1) (sz x0≤9223372036854775807) (fun r => -1≤r∧r<x0.2.1.length∧(0≤r→∃a∈x0.2.1,a.1=x1)∧(r<0→∀a∈x0.2.1,a.1≠x1))
@[reducible,instance] def Qvv{x0 x1}{s}:=upL (N:=N) (s:=s) (Be.eq_def N x0 x1) (fun t=>t) x0.2.2.length (fun t=>sz x0≤9223372036854775807) (fun r:((Unit)⊕(Bool))=>True)
@[reducible,instance] def Q2z{x0 x1}:=mkW (Xf.eq_1 N x0 x1) (sz x0≤9223372036854775807) (fun r=>True)
@[reducible,instance] def Qyh{x0 x1}{s}:=upL (N:=N) (s:=s) (Df.eq_def N x0 x1) (fun t=>t) x0.2.1.length (fun t=>sz x0≤9223372036854775807) (fun r:((Unit)⊕(Bool))=>True)
@[reducible,instance] def Q4k{x0 x1}:=mkW (F9.eq_1 N x0 x1) (sz x0≤9223372036854775807) (fun r=>True)
@[reducible,instance] def Qtl{x0 x1}:=mkW (Xg.eq_1 N x0 x1) (sz x0≤9223372036854775807) (fun r=>r=0→x1.2.1≠1→∃a∈x0.1,a.1=x1.2.2.1)
@[reducible,instance] def Qy9{x0 x1}{s}:=upL (N:=N) (s:=s) (Iu.eq_def N x0 x1) (fun t=>t) x0.length (fun t=>sz x0≤9223372036854775807) (fun r:((Unit)⊕(Bool))=>True)
@[reducible,instance] def Q6u{x0 x1}:=mkW (Uy.eq_1 N x0 x1) (sz x0≤9223372036854775807) (fun r=>True)
@[reducible,instance] def Qvw{x0 x1}{s}:=upL (N:=N) (s:=s) (Bf.eq_def N x0 x1) (fun t=>t) x0.2.1.length (fun t=>sz x0≤9223372036854775807) (fun r:((Unit)⊕(Bool))=>True)
@[reducible,instance] def Q20{x0 x1}:=mkW (Em.eq_1 N x0 x1) (sz x0≤9223372036854775807) (fun r=>True)
@[reducible,instance] def Q21{x0 x1}:=mkW (Eo.eq_1 N x0 x1) (sz x0≤9223372036854775807) (fun r=>r=0→∃a∈x0.2.1,a.1=x1.2.2.2.1)
@[reducible,instance] def Q22{x0 x1 x2}:=mkW (Ep.eq_1 N x0 x1 x2) (sz x0≤9223372036854775807∧Sh.sh x1) (fun r=>r=0→((x1.2.1=2→∃a∈x0.1,a.1=x1.2.2.1)∧(¬ (x1.2.1=1∨x1.2.1=2∨x1.2.1=3∨x1.2.1=14∨x1.2.1=15)→∃a∈x0.2.1,a.1=x1.2.2.2.1)))
@[reducible,instance] def Qyi{x0 x1}{s}:=upL (N:=N) (s:=s) (Dg.eq_def N x0 x1) (fun t=>t) x0.length (fun t=>sz x0≤9223372036854775807) (fun r:((Int))=>0≤r∧r≤x0.length)
@[reducible,instance] def Q4l{x0 x1}:=mkW (Wk.eq_1 N x0 x1) (sz x0≤1099511627776) (fun r=>sz r≤sz x0+1)
@[reducible,instance] def Qss{x0 x1}{s}:=upL (N:=N) (s:=s) (Fj.eq_def N x0 x1) (fun t=>t.1) x0.length (fun t=>sz x0≤1099511627776∧t.2.length≤t.1∧sz t.2≤(sz x0)) (fun r:(((List Str)))=>sz r≤(sz x0))
@[reducible,instance] def Qyj{x0 x1}:=mkW (Z4.eq_1 N x0 x1) (sz x0≤1099511627776) (fun r=>sz r≤(sz x0))
@[reducible,instance] def Qyk{x0 x1}:=mkW (Gg.eq_1 N x0 x1) (sz x0≤1099511627776) (fun r=>r.2.2.2.2.1.length≤x0.2.2.2.2.1.length+1∧r.2.2.2.2.2.1.length≤x0.2.2.2.2.2.1.length+1)
@[reducible,instance] def Q23{x0 x1}:=mkW (Er.eq_1 N x0 x1) (sz x0≤1099511627776∧(x1.2.1=2→∃a∈x0.1,a.1=x1.2.2.1)∧(¬ (x1.2.1=1∨x1.2.1=2∨x1.2.1=3∨x1.2.1=14∨x1.2.1=15)→∃a∈x0.2.1,a.1=x1.2.2.2.1)) (fun r=>sz r.1≤sz x0.1+1∧sz r.2.1≤sz x0.2.1+1∧sz r.2.2≤sz x0.2.2+1)
@[reducible,instance] def Qvx{x0}{s}:=upL (N:=N) (s:=s) (Bg.eq_def N x0) (fun t=>t.2.1) x0.length (fun t=>x0.length≤4096∧Sh.sh x0∧sz t.2.2.1≤t.2.1∧sz t.2.2.2.1≤t.2.1∧sz t.2.2.2.2≤t.2.1) (fun r:((Unit)⊕(Int×Int))=>True)
@[reducible,instance] def Q24{x0}:=mkW (Es.eq_1 N x0) (sz x0≤1099511627776∧Sh.sh x0) (fun r=>True)
@[reducible,instance] def Qvy{x0}{s}:=upL (N:=N) (s:=s) (Bh.eq_def N x0) (fun t=>t) x0.length (fun t=>sz x0≤9223372036854775807∧Sh.sh x0) (fun r:((Unit)⊕(Int))=>True)
@[reducible,instance] def Qvz{x0}{s}:=upI (N:=N) (s:=s) (Bi.eq_def N x0) (fun t=>t) ((x0.length:Int)) (fun t=>sz x0≤9223372036854775807∧1≤t) (fun r:((Unit)⊕(Int))=>True)
@[reducible,instance] def Q25{x0}:=mkW (Et.eq_1 N x0) (sz x0≤9223372036854775807∧Sh.sh x0) (fun r=>r=0→sz x0≤64)
@[reducible,instance] def Qza{x0}:=mkW (Hq.eq_1 N x0) (sz x0≤9223372036854775807∧Sh.sh x0) (fun r=>r=0→sz x0≤64)
@[reducible,instance] def Qzb{x0}{s}:=Qlt (N:=N) (s:=s) (Iv.eq_def N x0) x0.2.2.2.2.2 (sz x0≤9223372036854775807∧Sh.sh x0) (fun y=>(sz y:Int)≤64) ((szL (x0.2.2.2.2.2):Int)≤64) (fun u=>u≠0)
@[reducible,instance] def Q6v{x0}:=mkW (Cg.eq_1 N x0) (sz x0≤9223372036854775807∧Sh.sh x0) (fun r=>r=0→sz x0≤64)
@[reducible,instance] def Qv0{x0}{s}:=Qlt (N:=N) (s:=s) (Bj.eq_def N x0) x0 (sz x0≤9223372036854775807∧Sh.sh x0) (fun y=>(sz y:Int)≤64) ((szL (x0):Int)≤64) (fun u=>u≠0)
@[reducible,instance] def Q26{x0}:=mkW (Eu.eq_1 N x0) (sz x0≤9223372036854775807∧Sh.sh x0) (fun r=>r=0→sz x0≤4096)
@[reducible,instance] def Q27{x0}:=mkW (Xh.eq_1 N x0) (True) (fun r=>True)
@[reducible,instance] def Q28{x0}:=mkW (Ev.eq_1 N x0) (True) (fun r=>True)
@[reducible,instance] def Qyl{x0}{s}:=upL (N:=N) (s:=s) (Dh.eq_def N x0) (fun t=>t) x0.length (fun t=>Sh.sh x0) (fun r:((Unit)⊕(Bool))=>True) (fun _ h=>Qht (by grind))
@[reducible,instance] def Q4m{x0}:=mkW (Wl.eq_1 N x0) (Sh.sh x0) (fun r=>True)
@[reducible,instance] def Qym{x0}{s}:=upL (N:=N) (s:=s) (Di.eq_def N x0) (fun t=>t) x0.length (fun t=>Sh.sh x0) (fun r:((Unit)⊕(Bool))=>True) (fun _ h=>Qht (by grind))
@[reducible,instance] def Q4n{x0}:=mkW (Wm.eq_1 N x0) (Sh.sh x0) (fun r=>True)
@[reducible,instance] def Qst{x0 v1 x1 x2}{s}:=upI (N:=N) (s:=s) (Fk.eq_def N x0 v1 x1 x2) (fun t=>t) (9223372036854775807) (fun t=>sz x0≤9223372036854775807∧0≤v1∧v1≤x1∧x1<x0.length∧∀z,x0[x1.toNat]?=some z→0≤x2∧x2<z.2.length∧x0.length≤9223372036854775807) (fun r:((Unit)⊕(Bool))=>True)
@[reducible,instance] def Qsu{x1 x0 x2}{s}:=upI (N:=N) (s:=s) (Fl.eq_def N x1 x0 x2) (fun t=>t) (x1+1) (fun t=>sz x0≤9223372036854775807∧0≤x1∧x1<x0.length∧∀z,x0[x1.toNat]?=some z→0≤x2∧x2<z.2.length∧x0.length≤9223372036854775807) (fun r:((Unit)⊕(Bool))=>True)
@[reducible,instance] def Qyn{x0 x1 x2}:=mkW (Gh.eq_1 N x0 x1 x2) (sz x0≤9223372036854775807∧0≤x1∧x1<x0.length∧(∀z,x0[x1.toNat]?=some z→0≤x2∧x2<z.2.length)) (fun r=>True)
@[reducible,instance] def Qyo{x1 x0 x2}{s}:=upI (N:=N) (s:=s) (Dj.eq_def N x1 x0 x2) (fun t=>t) (x1) (fun t=>x1≤x0.length∧x0.length≤9223372036854775807) (fun r:((Unit)⊕(Int))=>True)
@[reducible,instance] def Qyp{x2 x0 x1}{s}:=upL (N:=N) (s:=s) (Dk.eq_def N x2 x0 x1) (fun t=>t) x2.2.length (fun t=>sz x2≤9223372036854775807∧sz x0≤9223372036854775807∧Sh.sh x2∧Sh.sh x0∧0≤x1∧x1<x0.length∧x0[x1.toNat]?=some x2∧x0.length≤9223372036854775807) (fun r:((Unit)⊕(Int))=>True)
@[reducible,instance] def Q4o{x0 x1}:=mkW (Aa.eq_1 N x0 x1) (sz x0≤9223372036854775807∧Sh.sh x0∧0≤x1∧x1<x0.length) (fun r=>True)
@[reducible,instance] def Qv1{x0}{s}:=upL (N:=N) (s:=s) (Bk.eq_def N x0) (fun t=>t) x0.length (fun t=>sz x0≤9223372036854775807∧Sh.sh x0∧x0.length≤9223372036854775807) (fun r:((Unit)⊕(Int))=>True)
@[reducible,instance] def Q29{x0}:=mkW (Ew.eq_1 N x0) (sz x0≤9223372036854775807∧Sh.sh x0) (fun r=>True)
@[reducible,instance] def Qv2{x0}{s}:=upL (N:=N) (s:=s) (Bl.eq_def N x0) (fun t=>t) x0.length (fun t=>sz x0≤9223372036854775807) (fun r:((Unit)⊕(Int))=>True)
@[reducible,instance] def Q3a{x0 x1}:=mkW (Ey.eq_1 N x0 x1) (sz x0≤9223372036854775807) (fun r=>True)
@[reducible,instance] def Qv3{v1 x0}{s}:=upI (N:=N) (s:=s) (Bm.eq_def N v1 x0) (fun t=>t) (v1) (fun t=>v1<x0.length∧x0.length≤9223372036854775807) (fun r:((Unit)⊕(Int))=>True)
@[reducible,instance] def Qv4{x0}{s}:=upL (N:=N) (s:=s) (Bn.eq_def N x0) (fun t=>t) x0.length (fun t=>sz x0≤9223372036854775807∧Sh.sh x0∧x0.length≤9223372036854775807) (fun r:((Unit)⊕(Int))=>True)
@[reducible,instance] def Q3b{x0}:=mkW (Ez.eq_1 N x0) (sz x0≤9223372036854775807∧Sh.sh x0) (fun r=>True)
@[reducible,instance] def Qyq{x0 x1}{s}:=upL (N:=N) (s:=s) (Dl.eq_def N x0 x1) (fun t=>t) x0.2.2.2.1.length (fun t=>sz x0≤9223372036854775807) (fun r:((Unit)⊕(Bool))=>True)
@[reducible,instance] def Q4p{x0 x1}:=mkW (Ab.eq_1 N x0 x1) (sz x0≤9223372036854775807) (fun r=>True)
@[reducible,instance] def Qyr{x0 x1}{s}:=upL (N:=N) (s:=s) (Dm.eq_def N x0 x1) (fun t=>t) x0.2.2.2.2.1.length (fun t=>sz x0≤9223372036854775807) (fun r:((Unit)⊕(Bool))=>True)
@[reducible,instance] def Q4q{x0 x1}:=mkW (Ac.eq_1 N x0 x1) (sz x0≤9223372036854775807) (fun r=>True)
@[reducible,instance] def Qv5{x0}{s}:=upL (N:=N) (s:=s) (Bo.eq_def N x0) (fun t=>t.2) x0.length (fun t=>sz x0≤9223372036854775807) (fun r:((Unit)⊕(Int))=>True)
@[reducible,instance] def Q3c{x0}:=mkW (Xi.eq_1 N x0) (sz x0≤9223372036854775807) (fun r=>True)
@[reducible,instance] def Qv6{x0}{s}:=upL (N:=N) (s:=s) (Bp.eq_def N x0) (fun t=>t) x0.2.2.2.2.2.1.length (fun t=>sz x0≤9223372036854775807) (fun r:((Unit)⊕(Int))=>True)
@[reducible,instance] def Q3d{x0}:=mkW (E0.eq_1 N x0) (sz x0≤9223372036854775807) (fun r=>True)
@[reducible,instance] def Q3e{x0}:=mkW (E1.eq_1 N x0) (True) (fun r=>(x0=4→r=1)∧(¬ (x0=1∨x0=2∨x0=3∨x0=4)→r=2∨r = -1))
@[reducible,instance] def Qzc{x0 x1}{s}:=upL (N:=N) (s:=s) (Iw.eq_def N x0 x1) (fun t=>t) x0.length (fun t=>sz x0≤9223372036854775807) (fun r:((Unit)⊕(Bool))=>True)
@[reducible,instance] def Q6w{x0 x1}:=mkW (G4.eq_1 N x0 x1) (sz x0≤9223372036854775807) (fun r=>True)
@[reducible,instance] def Qtm{x0}:=mkW (Uo.eq_1 N x0) (True) (fun r=>True)
@[reducible,instance] def Q6x{x0}:=mkW (Ch.eq_1 N x0) (sz x0≤9223372036854775807) (fun r=>r=0→((x0.x.1=4→x0.ks.length=1)∧(¬ (x0.x.1=1∨x0.x.1=2∨x0.x.1=3∨x0.x.1=4)→x0.ks.length=2)))
@[reducible,instance] def Qzd{x0 x1}:=mkW (Hr.eq_1 N x0 x1) ((x0.x.1=4→1≤x1.length)∧(¬ (x0.x.1=1∨x0.x.1=2∨x0.x.1=3∨x0.x.1=4)→2≤x1.length)) (fun r=>True)
theorem Q3f{N:Nat}[X4 N]:∀(n:Nat) (e:Qj) (d:Int),1≤d→d≤17→18≤n+d→sz e≤1099511627776→W (Vk N n e d) fun _=>True
 | 0,e,d,h0,h1,h2,h3=>by omega
 | n+1,e,d,h0,h1,h2,h3=>by
  unfold Vk
  by_cases hd:d>16
  ·rw[if_pos (by simpa using hd)]
   exact⟨_,rfl,trivial⟩
  ·rw[if_neg (by simpa using hd)]
   have hw:IntKind.wrap .i64 (d+1)=d+1:=Q2 (by omega) (by omega)
   have ih:∀x:Qj,WP (Vk N n x (IntKind.wrap .i64 (d+1))) (fun R=>sz x≤1099511627776∧∀r:Int×Int,True→R r):=fun x=>D5 fun h=>by rw[hw]; exact Q3f n x (d+1) (by omega) (by omega) (by omega) h
   have hk:=Qhs (e:=e)
   have hlen:=Xp (l:=e.ks)
   have loop:=fun s:Int×List Int=>upL (N:=N) (s:=s) (Mh.eq_def N (Vk N n) e d) (fun s=>s.1) e.ks.length (fun s=>sz e.ks≤1099511627776∧s.2.length=s.1) (fun r:List Int⊕(Int×Int)=>∀a,r=.inl a→a.length=e.ks.length)
   refine wp ?_
   simp only[ss,sz1,sh1,mx1,Sum.forall,Sum.inl.injEq,Sum.inr.injEq,reduceCtorEq,forall_eq',forall_eq,false_implies,implies_true,true_implies,and_true,true_and,forall_const,beq_iff_eq,bne_iff_ne,ne_eq,QI,JI,JO]at *
   repeat' (first | intro _ | apply And.intro)
   all_goals first | assumption | omega | grind
@[reducible,instance] def Q91{N:Nat}[hN:X4 N]{x0:Qj}{x1:Int}:WP (Qbg N x0 x1) (fun R=>(sz x0≤1099511627776∧x1=1)∧∀r:Int×Int,True→R r):=D5 (by
  intro h
  have:=hN.le
  exact Q3f N x0 x1 (by omega) (by omega) (by omega) h.1)
@[reducible,instance] def Q4r{x0}:=mkW (Ad.eq_1 N x0) (sz x0≤1099511627776) (fun r=>True)
@[reducible,instance] def Qo1{v1 x0 x2}{s}:=upI (N:=N) (s:=s) (Hb.eq_def N v1 x0 x2) (fun t=>t) (v1) (fun t=>v1≤x0.2.2.2.2.2.2.length∧x0.2.2.2.2.2.2.length≤9223372036854775807) (fun r:((Unit)⊕(Int))=>True)
@[reducible,instance] def Qo2{x0}{s}:=upL (N:=N) (s:=s) (Hc.eq_def N x0) (fun t=>t) x0.2.2.2.2.2.2.length (fun t=>sz x0≤1099511627776∧Sh.sh x0) (fun r:((Unit)⊕(Int))=>True)
@[reducible,instance] def Qtn{x0}:=mkW (Xj.eq_1 N x0) (sz x0≤1099511627776∧Sh.sh x0) (fun r=>True)
@[reducible,instance] def Qze{x0}:=mkW (Hs.eq_1 N x0) (sz x0≤1099511627776∧Sh.sh x0) (fun r=>True)
@[reducible,instance] def Q3g{x0 x1}:=mkW (E2.eq_1 N x0 x1) (sz x0≤9223372036854775807∧sz x1≤9223372036854775807) (fun r=>True)
@[reducible,instance] def Qv7{x0}{s}:=upL (N:=N) (s:=s) (Bq.eq_def N x0) (fun t=>t) x0.length (fun t=>sz x0≤1099511627776∧Sh.sh x0∧x0.length≤1099511627776) (fun r:((Unit)⊕(Int))=>True)
@[reducible,instance] def Q3h{x0}:=mkW (E3.eq_1 N x0) (sz x0≤1099511627776∧Sh.sh x0) (fun r=>True)
@[reducible,instance] def Qv8{x0}{s}:=upL (N:=N) (s:=s) (Br.eq_def N x0) (fun t=>t) x0.length (fun t=>sz x0≤9223372036854775807∧Sh.sh x0) (fun r:((Unit)⊕(Bool))=>True)
@[reducible,instance] def Q3i{x0}:=mkW (E4.eq_1 N x0) (sz x0≤9223372036854775807∧Sh.sh x0) (fun r=>True)
@[reducible,instance] def Q3j{x0}:=mkW (U8.eq_1 N x0) (True) (fun r=>True)
@[reducible,instance] def Qzf{x0 x1}{s}:=upL (N:=N) (s:=s) (Ix.eq_def N x0 x1) (fun t=>t.2.1) x0.length (fun t=>x0.length≤1099511627776∧t.2.2.length≤t.2.1+1∧(t.1=false→t.2.2.length≤t.2.1)) (fun r:((Bool×(List Int)))=>r.2.length≤x0.length+1∧(r.1=false→r.2.length≤x0.length))
@[reducible,instance] def Q6y{x0 x1}:=mkW (G5.eq_1 N x0 x1) (sz x0≤1099511627776) (fun r=>r.length≤x0.length+1)
@[reducible,instance] def Qto{x1}{s}:=upL (N:=N) (s:=s) (Ae.eq_def N x1) (fun t=>t.2) x1.length (fun t=>sz x1≤1099511627776∧s.1.length≤1099511627∧x1.length≤1099511627∧(t.1.length:Int)+2*(x1.length - t.2)≤s.1.length+2*(x1.length - s.2)∧0≤s.2) (fun r:(((List Int)))=>(r.length:Int)≤s.1.length+2*(x1.length - s.2))
@[reducible,instance] def Qzg{x0 x1}:=mkW (Kg.eq_1 N x0 x1) (x0.length≤1099511627∧x1.length≤1099511627) (fun r=>r.length≤x0.length+2*x1.length)
@[reducible,instance] def Qv9{x0 x1}:=mkW (Wc.eq_1 N x0 x1) (True) (fun r=>True)
@[reducible,instance] def Q3k{x0 x1}{s}:=upL (N:=N) (s:=s) (Mi.eq_def N x0 x1) (fun t=>t) x0.length (fun t=>sz x0≤9223372036854775807) (fun r:((Unit)⊕(Bool))=>True)
@[reducible,instance] def Q92{x0 x1}:=mkW (Ed.eq_1 N x0 x1) (sz x0≤9223372036854775807) (fun r=>True)
@[reducible,instance] def Qtp{r2 x0 x2 x1 x3}{s}:=upI (N:=N) (s:=s) (Af.eq_def N r2 x0 x2 x1 x3) (fun t=>t.1) ((r2.length:Int)) (fun t=>r2.length≤1099511627776∧t.1≤r2.length∧t.2.length≤t.1∧sz x0≤1099511627776∧sz x1≤1099511627776) (fun r:(((List Qa)))=>r.length≤r2.length)
@[reducible,instance] def Qzh{x0 x1 x2 x3}:=mkW (Ht.eq_1 N x0 x1 x2 x3) (x0.length≤1000∧x1.length≤1000) (fun r=>True)
@[reducible,instance] def Qzi{x0 x1}:=mkW (Hu.eq_1 N x0 x1) (x0.length≤1000∧x1.length≤1000) (fun r=>True)
@[reducible,instance] def Qtq{x0 x1}:=mkW (Xk.eq_1 N x0 x1) (True) (fun r=>True)
@[reducible,instance] def Qoh{v1 x0 x2}{s}:=upI (N:=N) (s:=s) (Gi.eq_def N v1 x0 x2) (fun t=>t) (v1) (fun t=>v1<x0.length∧x0.length≤9223372036854775807) (fun r:((Unit)⊕(Bool))=>True)
@[reducible,instance] def Qoi{x0}{s}:=upL (N:=N) (s:=s) (Gj.eq_def N x0) (fun t=>t) x0.length (fun t=>sz x0≤9223372036854775807∧x0.length≤9223372036854775807) (fun r:((Unit)⊕(Bool))=>True)
@[reducible,instance] def Qsv{x0}:=mkW (Ks.eq_1 N x0) (sz x0≤9223372036854775807) (fun r=>True)
@[reducible,instance] def Qwa{x0 x1}{s}:=Qlt (N:=N) (s:=s) (Bs.eq_def N x0 x1) x0.2.1 (sz x0.2.1≤9223372036854775807∧Sh.sh x0.2.1∧1≤x1∧x1≤200) (fun y=>(sz y:Int)≤4*x1∧Ze y) ((szL x0.2.1:Int)≤4*x1∧Jk Ze x0.2.1) (fun u=>u=false) (fin:=fun h zi=>⟨Qyf (fun y hy=>(zi y hy).1) (by omega),⟨fun y hy=>(zi y hy).2⟩⟩)
@[reducible,instance] def Qwb{x0 x1}{s}:=Qlt (N:=N) (s:=s) (Bt.eq_def N x0 x1) x0.2.2.2.2.2 (x0.2.2.2.2.2.length≤9223372036854775807∧1≤x1∧x1≤200) (fun y=>(sz y:Int)≤x1) ((szL (x0.2.2.2.2.2):Int)≤x1) (fun u=>u=false)
@[reducible,instance] def Qwc{x0 x1}{s}:=Qlt (N:=N) (s:=s) (Bu.eq_def N x0 x1) x0.2.2.1 (x0.2.2.1.length≤9223372036854775807∧1≤x1∧x1≤200) (fun y=>(y.2.2.2.2.2.length:Int)≤x1) (Jk (fun p:Qn=>(p.2.2.2.2.2.length:Int)≤x1) x0.2.2.1) (fun u=>u=false) (fin:=fun h zi=>⟨zi⟩)
@[reducible,instance] def Qwd{x0}{s}:=Qlt (N:=N) (s:=s) (Bv.eq_def N x0) x0.2.2.2.2.1 (x0.2.2.2.2.1.length≤9223372036854775807) (fun y=>True) (∀y∈x0.2.2.2.2.1,True) (fun u=>u=false)
@[reducible,instance] def Q3l{x0 x1}:=mkW (E5.eq_1 N x0 x1) (sz x0≤9223372036854775807∧Sh.sh x0∧1≤x1∧x1≤200) (fun r=>r=true→(sz x0:Int)≤4096∧(x0.1.length:Int)≤x1∧(x0.2.2.1.length:Int)≤x1∧Jk Ze x0.2.1∧Jk (fun p:Qn=>(p.2.2.2.2.2.length:Int)≤x1) x0.2.2.1)
theorem Qys(m:List (Int×Int×Int×Int×Str×List Str×List Str×Bool×Bool))(x:Int) :
  ((Qr (k:=.int .i64) x m).getD (0,0,0,([]:Str),([]:List Str),([]:List Str),false,false)).2.2.2.2.1.length≤sz m∧((Qr (k:=.int .i64) x m).getD (0,0,0,([]:Str),([]:List Str),([]:List Str),false,false)).2.2.2.2.2.1.length≤sz m:=by
 have h:=A3 x ((0,0,0,([]:Str),([]:List Str),([]:List Str),false,false):Int×Int×Int×Str×List Str×List Str×Bool×Bool) m
 simp only[sz1,mx1,JO,VI,WG]at h ⊢
 omega
theorem Q93(m:List (Int×Int×Int×Int×Bool×Bool×List Int))(x:Int) :
  ((Qr (k:=.int .i64) x m).getD (0,0,0,false,false,([]:List Int))).2.2.2.2.2.length≤sz m:=by
 have h:=A3 x ((0,0,0,false,false,([]:List Int)):Int×Int×Int×Bool×Bool×List Int) m
 simp only[sz1,mx1,JO,VI,WG]at h ⊢
 omega
theorem Q3m(m:List (Int×List Int))(x:Int):((Qr (k:=.int .i64) x m).getD ([]:List Int)).length≤sz m:=by
 have h:=A3 x ([]:List Int) m
 simp only[sz1,mx1,JO,VI]at h ⊢
 omega
theorem Jll{V:Type}[Sz V]{K:Int}{x:Int}{v:V}{m:List (Int×V)}(h1:(sz m:Int)+1≤K)(h2:(sz v:Int)≤K):((sz (Ya (k:=.int .i64) x v m:List (Int×V)):Nat):Int)≤K:=by
 have:=C3 x v m
 omega
theorem Y2{α:Type}{l:List α}{i:Int}{x:α}(h0:0≤i)(h:l[i.toNat]?=some x):l.take i.toNat++[x]=l.take (i+1).toNat:=by
 have e:(i+1).toNat=i.toNat+1:=by omega
 rw[e,List.take_add_one,h]; rfl
theorem Vu{α:Type}{l:List α}{i:Int}(h:(l.length:Int)≤i):l.take i.toNat=l:=JP (by omega)
instance (priority:=2000) wpSlcS {l:Str} {a b:Int}:WP (slc l a b) (fun R=>(0≤a∧a≤b∧b≤(List.length l:Int))∧∀s:Str,(List.length s:Int)=b - a→R s):=⟨fun R h=>by
 obtain⟨⟨h0,h1,h2⟩,hR⟩:=h
 refine⟨(l.drop a.toNat).take (b - a).toNat,?_,hR _ (by rw[QO,JV]; omega)⟩
 unfold slc
 rw[if_pos ⟨h0,h1,h2⟩]⟩
def lpd(y:Int):Int:=if(y.tmod 4=0∧y.tmod 100≠0)∨y.tmod 400=0 then 1 else 0
def bef(y:Int):Int:=365*(y - 2000)+(if y>2000 then(y - 2001) / 4 - (y - 2001) / 100+(y - 2001) / 400+1 else 0)
theorem Jik(y:Int):0≤lpd y∧lpd y≤1:=by unfold lpd; split<;>omega
theorem Jil(y:Int)(h:2000≤y):bef (y+1)=bef y+365+lpd y:=by
 unfold bef lpd
 rw[XP (by omega),XP (by omega),XP (by omega)]
 split<;>split<;>split<;>omega
theorem Qyt(y:Int)(h:2000≤y):365*(y - 2000)≤bef y∧bef y≤366*(y - 2000):=by
 unfold bef
 split<;>omega
theorem Jim:bef 2400=146097:=by decide
def mon(y m:Int):Int:=if m=2 then 28+lpd y else if m=4∨m=6∨m=9∨m=11 then 30 else 31
def lft(y m:Int):Int:=if m=1 then 365+lpd y else if m=2 then 334+lpd y else if m=3 then 306 else if m=4 then 275 else if m=5 then 245 else if m=6 then 214 else if m=7 then 184 else if m=8 then 153 else if m=9 then 122 else if m=10 then 92 else if m=11 then 61 else if m=12 then 31 else 0
theorem Jin(y m:Int)(h:1≤m∧m≤12):lft y m=mon y m+lft y (m+1):=by
 have hx:m=1∨m=2∨m=3∨m=4∨m=5∨m=6∨m=7∨m=8∨m=9∨m=10∨m=11∨m=12:=by omega
 rcases hx with rfl | rfl | rfl | rfl | rfl | rfl | rfl | rfl | rfl | rfl | rfl | rfl<;>simp[lft,mon]<;>omega
theorem Jrj(y:Int):lft y 1=365+lpd y:=by simp[lft]
theorem Jqa(y:Int):lft y 13=0:=by simp[lft]
theorem Q3n{W:Type}{key:Int}{v:W}{y:Int×W}:∀{m:List (Int×W)},y∈(Ya (k:=.int .i64) key v m:List (Int×W))→y=(key,v)∨y∈m
 | [],h=>by
  unfold Ya at h
  rcases QX.1 h with h | h
  ·exact .inl h
  ·exact .inr h
 | x::m,h=>by
  unfold Ya at h
  cases hk:eqK (.int .i64) key x.1 with
  | true =>
   rw[hk]at h
   rcases QX.1 h with h | h
   ·exact .inl h
   ·exact .inr (.tail _ h)
  | false =>
   rw[hk]at h
   rcases QX.1 h with h | h
   ·exact .inr (h▸.head _)
   ·rcases Q3n h with h | h
    ·exact .inl h
    ·exact .inr (.tail _ h)
theorem Qwe{W:Type}{key:Int}:∀{m:List (Int×W)} {v:W},Qr (k:=.int .i64) key m=some v→∃p∈m,p.2=v
 | x::m,v,h=>by
  unfold Qr at h
  cases hk:eqK (.int .i64) key x.1 with
  | true=>rw[hk]at h; exact⟨x,.head _,Option.some.inj h⟩
  | false =>
   rw[hk]at h
   obtain⟨p,hp,e⟩:=Qwe h
   exact⟨p,.tail _ hp,e⟩
structure Qgd(m:List (Int×Int))(n:Int):Prop where
 all:∀p∈m,0≤p.2∧p.2<n
theorem Qe4{n:Int}:Qgd [] n:=⟨fun _ h=>absurd h XD⟩
theorem Qe5{m:List (Int×Int)}{n key v:Int}(h:Qgd m n)(h0:0≤v)(h1:v<n):Qgd (Ya (k:=.int .i64) key v m) n:=⟨fun p hp=>by
 rcases Q3n hp with e | hp
 ·rw[e]; exact⟨h0,h1⟩
 ·exact h.all p hp⟩
theorem Qe6{m:List (Int×Int)}{n key d:Int}(h:Qgd m n)(hs:(Qr (k:=.int .i64) key m).isSome=true):0≤(Qr (k:=.int .i64) key m).getD d∧(Qr (k:=.int .i64) key m).getD d<n:=by
 cases e:Qr (k:=.int .i64) key m with
 | none=>rw[e]at hs; exact absurd hs (by decide)
 | some v =>
  obtain⟨p,hp,e2⟩:=Qwe e
  have:=h.all p hp
  rw[e2]at this; exact this
theorem Qwf{W:Type}{key:Str}{v:W}:∀{m:List (Str×W)},Qr (k:=.str) key (Ya (k:=.str) key v m:List (Str×W))=some v
 | []=>by
  unfold Ya Qr
  rw[Qgc]; rfl
 | x::m=>by
  unfold Ya
  cases hk:eqK .str key x.1 with
  | true=>show Qr (k:=.str) key ((key,v)::m:List (Str×W))=_; unfold Qr; rw[Qgc]; rfl
  | false =>
   show Qr (k:=.str) key (x::(Ya (k:=.str) key v m:List (Str×W)))=_
   unfold Qr
   rw[hk]; exact Qwf
theorem H8{α:Type}{P:α→Prop}:Jk P []:=⟨fun _ h=>absurd h XD⟩
theorem Kz{α:Type}{P:α→Prop}{l m:List α}(h:Jk P l)(k:Jk P m):Jk P (l++m):=⟨fun x hx=>(QW.1 hx).elim (h.all x) (k.all x)⟩
theorem H9{α:Type}{P:α→Prop}{x:α}(h:P x):Jk P [x]:=⟨fun y hy=>by rw[JR.1 hy]; exact h⟩
theorem Q3o{α:Type}{P:α→Prop}{x y:α}(h:P x)(k:P y):Jk P [x,y]:=⟨fun z hz=>by
 rcases QX.1 hz with e | hz
 ·rw[e]; exact h
 ·rw[JR.1 hz]; exact k⟩
theorem Qjq{α:Type}{P:α→Prop}{l:List α}{i:Nat}{x:α}(h:Jk P l)(k:P x):Jk P (l.set i x):=⟨fun y hy=>(VV hy).elim (h.all y) (fun e=>e▸k)⟩
theorem Qe7{α:Type}{P Q:α→Prop}{l:List α}(h:Jk P l)(k:∀x,P x→Q x):Jk Q l:=⟨fun x hx=>k x (h.all x hx)⟩
structure A4(B:Int)(c:Int×Int×Int):Prop where
 side:0≤c.2.1∧c.2.1≤1
 time:0≤c.1∧c.1≤B
instance wpSortF {l:List (Int×Int×Int)}:WP (Qf2 (fun x:Int×Int×Int=>x.1) l) (fun R=>(l.length≤1099511627776∧Jk (A4 12622780800) l)∧∀r,r.length=l.length→(∀P:Int×Int×Int→Prop,Jk P l→Jk P r)→R r):=⟨fun R h=>by
 obtain⟨⟨h1,h2⟩,hR⟩:=h
 have hk:l.all (fun x=>kOk x.1)=true:=JN.2 fun x hx=>by
  have:=(h2.all x hx).time
  unfold kOk
  simp only[QQ,decide_eq_true_eq]
  omega
 have he:∃r,Qf2 (fun x:Int×Int×Int=>x.1) l=some r:=by
  unfold Qf2
  rw[hk]
  have:decide (l.length<4611686018427387904)=true:=decide_eq_true (by omega)
  rw[this]
  simp only[Bool.and_self,cond_true]
  cases Nat.ble l.length 12&&Q6j (fun x:Int×Int×Int=>x.1) l<;>exact⟨_,rfl⟩
 obtain⟨r,e⟩:=he
 have hp:=(Qrc _ e).1
 exact⟨r,e,hR r hp.length_eq (fun P hP=>⟨fun x hx=>hP.all x (hp.mem_iff.1 hx)⟩)⟩⟩
theorem Jio{β:Type}{c:Prop}[Decidable c]{a:Option Bool}{f:Bool→Option β}{A:(Bool→Prop)→Prop}{B C:(β→Prop)→Prop}[ha:WP a A][hb:WP (f true) B][hc:WP (f false) C] :
  WP ((if c then some true else a).bind f) (fun R=>(c→B R)∧(¬ c→A fun b=>(b=true→B R)∧(b=false→C R))):=⟨fun R h=>by
 by_cases h0:c
 ·rw[if_pos h0]; exact hb.spec R (h.1 h0)
 ·rw[if_neg h0]
  obtain⟨r,e,hr⟩:=ha.spec _ (h.2 h0)
  rw[e]
  cases r with
  | true=>exact hb.spec R (hr.1 rfl)
  | false=>exact hc.spec R (hr.2 rfl)⟩
instance (priority:=900) wpfOpt {α γ:Type} {f:Option α→Option γ} {A:α→(γ→Prop)→Prop} {B:(γ→Prop)→Prop} [ha:WPf (fun a=>f (some a)) A] [hb:WP (f none) B]:WPf f (fun s R=>(∀a,s=some a→A a R)∧(s=none→B R)):=⟨fun s R k=>by
 cases s with
 | some a=>exact ha.spec a R (k.1 a rfl)
 | none=>exact hb.spec R (k.2 rfl)⟩
theorem Jcq{α:Type}{o:Option α}(h:o=none):isNone o=true:=by rw[h]; rfl
theorem Jip{W:Type}{key:Str}{v:W}{m:List (Str×W)}{C:Prop}(h:Qr (k:=.str) key (Ya (k:=.str) key v m:List (Str×W))=none):C:=by
 rw[Qwf]at h; exact absurd h (by simp)
instance wpSortZ {l:List Int}:WP (Qu7 l) (fun R=>l.length≤1099511627776∧∀r,r.length=l.length→R r):=⟨fun R h=>by
 refine⟨Qku l,?_,h.2 _ (Oc l).length_eq⟩
 unfold Qu7
 rw[decide_eq_true (by omega)]; rfl⟩
instance wpCompactZ {l:List Int}:WP (R9 l) (fun R=>l.length≤1099511627776∧∀r,r.length≤l.length→R r):=⟨fun R h=>by
 refine⟨Lib.compact l,?_,h.2 _ (Lib.compact_length_le l)⟩
 unfold R9
 rw[decide_eq_true (by omega)]; rfl⟩
instance wpFiltZ {p:Int→Bool} {l:List Int}:WP (Qu8 p l) (fun R=>l.length≤1099511627776∧∀r,r.length≤l.length→R r):=⟨fun R h=>by
 refine⟨l.filter fun x=>!p x,?_,h.2 _ (ZJ _ _)⟩
 unfold Qu8
 rw[decide_eq_true (by omega)]; rfl⟩
def Q3p(K:Int):List Int→Prop
 | []=>True
 | a::l=>(0≤a∧a≤K)∧Q3p K l
theorem Q3q{K:Int}:∀{l:List Int},(∀y∈l,0≤y∧y≤K)→Q3p K l
 | [],_=>True.intro
 | a::l,h=>⟨h a (.head _),Q3q fun y hy=>h y (.tail _ hy)⟩
structure Qlu(s:Int×Int×Int):Prop where
 upto:0≤s.1∧s.1≤1099511627776
 inc:1≤s.2.1∧s.2.1≤1099511627776
 price:0≤s.2.2∧s.2.2≤1125899906842624
theorem Jcr{s:Int×Int×Int}(h1:Q3p 1099511627776 [s.1,s.2.1])(h2:s.2.1≠0)(h3:Q3p 1125899906842624 [s.2.2]):Qlu s:=⟨h1.1,⟨by have:=h1.2.1; omega,h1.2.1.2⟩,h3.1⟩
theorem Jiq(v a i:Int)(h1:1≤i)(h2:i≤1099511627776)(h3:a<v)(h4:0≤a)(h5:v≤2199023255552):IntKind.wrap .i64 (Int.tdiv (IntKind.wrap .i64 (IntKind.wrap .i64 (IntKind.wrap .i64 (v - a)+i) - 1)) i)≠0:=by
 rw[Q2 (n:=v - a) (by omega) (by omega),Q2 (n:=v - a+i) (by omega) (by omega),Q2 (n:=v - a+i - 1) (by omega) (by omega),QT (by omega)]
 have h6:1≤(v - a+i - 1) / i:=by
  rw[Int.le_ediv_iff_mul_le (by omega)]; omega
 have h7:(v - a+i - 1) / i≤v - a+i - 1:=Int.ediv_le_self _ (by omega)
 rw[Q2 (by omega) (by omega)]; omega
theorem Jrk{v a i:Int}(h:IntKind.wrap .i64 (Int.tdiv (IntKind.wrap .i64 (IntKind.wrap .i64 (IntKind.wrap .i64 (v - a)+i) - 1)) i)=0)(h1:1≤i∧i≤1099511627776)(h3:¬ v≤a)(h4:0≤a)(h5:v≤2199023255552):False:=Jiq v a i h1.1 h1.2 (by omega) h4 h5 h
structure Wf(b:Qz):Prop where
 ev:b.1.length≤32
 tarL:sz b.2.1≤4096
 tarS:Sh.sh b.2.1
 tarO:Jk Ze b.2.1
 prodL:b.2.2.1.length≤32
 prodS:sz b.2.2.1≤4096
 prodO:Jk (fun p:Qn=>p.2.2.2.2.2.length≤32) b.2.2.1
 hol:b.2.2.2.2.1.length≤4096
structure W5(u:Qb):Prop where
 start:u.2.2.2.2.2.2.1≤86400000
 to_:u.2.2.2.2.2.1.length≤9223372036854775807
 toS:Sh.sh u.2.2.2.2.2.1
def Qjr(u:Qb):Int×Int×Int×Int:=(u.2.2.2.2.2.2.1,u.2.2.2.2.2.2.2.2.2.2.1,u.2.2.2.2.2.2.2.2.2.2.2,u.1)
def klt(a b:Int×Int×Int×Int):Prop:=a.1<b.1∨(a.1=b.1∧(a.2.1<b.2.1∨(a.2.1=b.2.1∧(a.2.2.1<b.2.2.1∨(a.2.2.1=b.2.2.1∧a.2.2.2<b.2.2.2)))))
def ule(u v:Qb):Prop:=¬ klt (Qjr v) (Qjr u)
theorem Jcs{a b c:Int×Int×Int×Int}(h:¬ klt b a)(k:¬ klt c b):¬ klt c a:=by
 unfold klt at *
 omega
theorem Jqb{a b:Int×Int×Int×Int}(h:¬ klt b a)(k:¬ klt a b):a.2.2.2=b.2.2.2:=by
 unfold klt at *
 omega
theorem Qwg{a b:Int×Int×Int×Int}(h:klt a b):¬ klt b a:=by
 unfold klt at *
 omega
theorem Jct{a b:Int×Int×Int×Int}(h:a.1<b.1):¬ klt b a:=by
 unfold klt
 omega
theorem Jcu{u v w:Qb}(h:ule u v)(k:ule v w):ule u w:=Jcs h k
structure Ids(l:List Qb):Prop where
 inj:∀u∈l,∀v∈l,u.1=v.1→u=v
theorem Q3r{l m n:List Qb}(hi:Ids n)(h1:l.Perm n)(h2:m.Perm n)(s1:l.Pairwise ule)(s2:m.Pairwise ule):l=m :=
 List.Perm.eq_of_pairwise (fun a b ha hb rh hba=>hi.inj a (h1.mem_iff.1 ha) b (h2.mem_iff.1 hb) (Jqb (a:=Qjr a) (b:=Qjr b) rh hba)) s1 s2 (h1.trans h2.symm)
theorem Qyu{e f:List Qb}{t:Int}(he:∀u∈e,u.2.2.2.2.2.2.1<t)(hf:∀u∈f,¬ u.2.2.2.2.2.2.1<t)(s1:e.Pairwise ule)(s2:f.Pairwise ule):(e++f).Pairwise ule :=
 QM.2 ⟨s1,s2,fun a ha b hb=>Jct (by have h1:=he a ha; have h2:=hf b hb; show a.2.2.2.2.2.2.1<b.2.2.2.2.2.2.1; omega)⟩
instance {a b:Int×Int×Int×Int}:Decidable (klt a b):=by unfold klt; infer_instance
def leB(x y:Qb):Bool:=!decide (klt (Qjr y) (Qjr x))
theorem O4{x y:Qb}:leB x y=true↔ule x y:=by unfold leB ule; simp
theorem Qe8{N:Nat}(a b:Qae):Gs N a b=some (decide (klt a b)):=by
 obtain⟨a1,a2,a3,a4⟩:=a
 obtain⟨b1,b2,b3,b4⟩:=b
 unfold Gs
 simp only[Bool.and_true]
 by_cases h1:a1=b1
 ·by_cases h2:a2=b2
  ·by_cases h3:a3=b3
   ·by_cases h4:a4=b4
    ·subst h1 h2 h3 h4
     rw[decide_eq_false (fun h=>Qwg h h)]; simp
    ·have:decide (klt (a1,a2,a3,a4) (b1,b2,b3,b4))=decide (a4<b4):=by
      refine decide_eq_decide.2 ?_
      unfold klt; simp only; omega
     rw[this]; simp[h1,h2,h3,h4]
   ·have:decide (klt (a1,a2,a3,a4) (b1,b2,b3,b4))=decide (a3<b3):=by
     refine decide_eq_decide.2 ?_
     unfold klt; simp only; omega
    rw[this]; simp[h1,h2,h3]
  ·have:decide (klt (a1,a2,a3,a4) (b1,b2,b3,b4))=decide (a2<b2):=by
    refine decide_eq_decide.2 ?_
    unfold klt; simp only; omega
   rw[this]; simp[h1,h2]
 ·have:decide (klt (a1,a2,a3,a4) (b1,b2,b3,b4))=decide (a1<b1):=by
   refine decide_eq_decide.2 ?_
   unfold klt; simp only; omega
  rw[this]; simp[h1]
theorem Qjs{α:Type}(x:α)(l:List α):slc (x::l) 1 (((x::l).length:Nat):Int)=some l:=by
 unfold slc
 rw[if_pos ⟨by omega,by simp; omega,by omega⟩]
 simp
theorem K0{α:Type}{b:Nat}{l m:List α}(h:(l.length+m.length)*b≤140737488355328):app b l m=some (l++m):=by unfold app; rw[if_pos h]
theorem Nu{N:Nat}:∀(k n:Nat) (a b o:List Qb),a.length+b.length=k→k<n→(o.length+k)*112≤140737488355328→Qf (J9 N) n (a,b,o)=some (o++List.merge a b leB)
 | k,0,a,b,o,hk,hn,hb=>by omega
 | k,n+1,[],[],o,hk,hn,hb=>by
  simp[Qf,J9]
 | k,n+1,x::a,[],o,hk,hn,hb=>by
  simp only[JI,JO]at hk
  have ih:=Nu (N:=N) (k - 1) n a [] (o++[x]) (by simp; omega) (by omega) (by simp; omega)
  have e:J9 N (x::a,[],o)=some (.inl (a,[],o++[x])):=by
   unfold J9
   have ha:=K0 (l:=o) (m:=[x]) (b:=112) (by simp; omega)
   simp only[Qjs]
   simp[idx,ha]
  simp[Qf,e,ih]
 | k,n+1,[],y::b,o,hk,hn,hb=>by
  simp only[JI,JO]at hk
  have ih:=Nu (N:=N) (k - 1) n [] b (o++[y]) (by simp; omega) (by omega) (by simp; omega)
  have e:J9 N ([],y::b,o)=some (.inl ([],b,o++[y])):=by
   unfold J9
   have ha:=K0 (l:=o) (m:=[y]) (b:=112) (by simp; omega)
   simp only[Qjs]
   have k8:¬ ((b.length:Int)+1=0):=by omega
   simp[idx,ha,k8]
  simp[Qf,e,ih]
 | k,n+1,x::a,y::b,o,hk,hn,hb=>by
  simp only[JI]at hk
  have k8:¬ ((b.length:Int)+1=0):=by omega
  have qk:(0:Int)<(a.length:Int)+1:=by omega
  cases hle:leB x y with
  | true =>
   have ih:=Nu (N:=N) (k - 1) n a (y::b) (o++[x]) (by simp; omega) (by omega) (by simp; omega)
   have e:J9 N (x::a,y::b,o)=some (.inl (a,y::b,o++[x])):=by
    unfold J9
    have hq:decide (klt (Qjr y) (Qjr x))=false:=by unfold leB at hle; simpa using hle
    have hf:∀u,Cu N u=some (Qjr u):=fun u=>rfl
    have ha:=K0 (l:=o) (m:=[x]) (b:=112) (by simp; omega)
    simp only[Qjs,hf,Qe8,hq]
    simp[idx,k8,qk,hf,Qe8,hq,ha]
   rw[List.cons_merge_cons_pos _ _ _ hle]
   simp[Qf,e,ih]
  | false =>
   have ih:=Nu (N:=N) (k - 1) n (x::a) b (o++[y]) (by simp; omega) (by omega) (by simp; omega)
   have e:J9 N (x::a,y::b,o)=some (.inl (x::a,b,o++[y])):=by
    unfold J9
    have hq:decide (klt (Qjr y) (Qjr x))=true:=by unfold leB at hle; simpa using hle
    have hf:∀u,Cu N u=some (Qjr u):=fun u=>rfl
    have ha:=K0 (l:=o) (m:=[y]) (b:=112) (by simp; omega)
    simp only[Qjs,hf,Qe8,hq]
    simp[idx,k8,qk,hf,Qe8,hq,ha]
   rw[List.cons_merge_cons_neg _ _ _ (by simp[hle])]
   simp[Qf,e,ih]
theorem Qyv{N:Nat}[hN:X4 N]:∀(n:Nat) (l:List Qb),l.length<n→l.length≤1000→∃r,Zu N n l=some r∧r.Perm l∧r.Pairwise ule
 | 0,l,h,_=>by omega
 | n+1,l,h,hl=>by
  unfold Zu
  by_cases h2:l.length<2
  ·rw[if_pos (decide_eq_true (by omega)),K0 (by simp; omega),QB,QC]
   refine⟨l,rfl,.refl _,?_⟩
   cases l with
   | nil=>exact .nil
   | cons x t =>
    cases t with
    | nil=>exact XU _ _
    | cons y t=>simp only[JI]at h2; omega
  ·rw[if_neg (fun hc=>h2 (by have:=of_decide_eq_true hc; omega))]
   have hd:IntKind.wrap .i64 (Int.tdiv (l.length:Int) 2)=((l.length / 2:Nat):Int):=by
    rw[QT (by omega),Q2 (by omega) (by omega)]; omega
   rw[hd]
   have e1:slc l 0 ((l.length / 2:Nat):Int)=some (l.take (l.length / 2)):=by
    unfold slc
    rw[if_pos ⟨by omega,by omega,by omega⟩]
    have:(((l.length / 2:Nat):Int) - 0).toNat=l.length / 2:=by omega
    rw[this]; rfl
   have e2:slc l ((l.length / 2:Nat):Int) (l.length:Int)=some (l.drop (l.length / 2)):=by
    unfold slc
    rw[if_pos ⟨by omega,by omega,by omega⟩]
    have:((l.length:Int) - ((l.length / 2:Nat):Int)).toNat=(l.drop (l.length / 2)).length:=by rw[JV]; omega
    rw[VY,this,VF]
   obtain⟨a,ea,pa,sa⟩:=Qyv (N:=N) n (l.take (l.length / 2)) (by rw[QO]; omega) (by rw[QO]; omega)
   obtain⟨b,eb,pb,sb⟩:=Qyv (N:=N) n (l.drop (l.length / 2)) (by rw[JV]; omega) (by rw[JV]; omega)
   have la:=pa.length_eq
   have lb:=pb.length_eq
   rw[QO]at la
   rw[JV]at lb
   have hm:∀z:Qb,Gd.mkL 112 0 (l.length:Int) z=some []:=fun z=>by
    unfold Gd.mkL
    rw[if_pos ⟨by omega,by omega,by omega⟩]; rfl
   have fe:=Nu (N:=N) (a.length+b.length) N a b [] rfl (by have:=hN.le; omega) (by simp; omega)
   rw[e1,QB,ea,QB,e2,QB,eb,QB,hm,QB,fe]
   refine⟨List.merge a b leB,by simp,?_,?_⟩
   ·refine(List.merge_perm_append leB).trans ((pa.append pb).trans ?_)
    rw[JH]
   ·have hp:=List.pairwise_merge (le:=leB) (fun x y z h k=>O4.2 (Jcu (O4.1 h) (O4.1 k))) (fun x y=>by
     rw[JS,O4,O4]
     unfold ule
     by_cases h:klt (Qjr y) (Qjr x)
     ·exact .inr (Qwg h)
     ·exact .inl h) a b (sa.imp O4.2) (sb.imp O4.2)
    exact hp.imp O4.1
theorem Qsj{N:Nat}[hN:X4 N]{l:List Qb}(hl:l.length≤1000):∃r,C2 N l=some r∧r.Perm l∧r.Pairwise ule:=Qyv N l (by have:=hN.le; omega) hl
@[reducible,instance] def Qzj{x0}:=mkW (Hv.eq_1 N x0) (True) (fun r=>r=true→0≤x0.2.2.2.2.2.2.1∧x0.2.2.2.2.2.2.1<12622780800)
@[reducible,instance] def Q4s{x0}:=mkW (Ag.eq_1 N x0) (True) (fun r=>r=true→x0<86400000∨x0>12622780800)
@[reducible,instance] def Q4t{x0 x1}{s}:=upL (N:=N) (s:=s) (Oe.eq_def N x0 x1) (fun t=>t) x0.length (fun t=>sz x0≤9223372036854775807) (fun r:((Int))=>0≤r∧r≤x0.length)
@[reducible,instance] def Jcv{x0 x1}:=mkW (Mj.eq_1 N x0 x1) (sz x0≤1099511627776) (fun r=>sz r≤sz x0+1)
@[reducible,instance] def Qyw{x0 x1}{s}:=upL (N:=N) (s:=s) (Do.eq_def N x0 x1) (fun t=>t.1) x0.length (fun t=>sz x0≤1099511627776∧t.2.length≤t.1∧sz t.2≤(sz x0)) (fun r:(((List Str)))=>sz r≤(sz x0))
@[reducible,instance] def Q4u{x0 x1}:=mkW (Ah.eq_1 N x0 x1) (sz x0≤1099511627776) (fun r=>sz r≤(sz x0))
@[reducible,instance] def Jcw{x0 x1}:=mkW (Mk.eq_1 N x0 x1) (sz x0≤1099511627776) (fun r=>r.2.2.2.2.1.length≤x0.2.2.2.2.1.length+1∧r.2.2.2.2.2.1.length≤x0.2.2.2.2.2.1.length+1)
@[reducible,instance] def Qyx{x0 x1}{s}:=upL (N:=N) (s:=s) (Dp.eq_def N x0 x1) (fun t=>t.1) x0.length (fun t=>x0.length≤32∧t.2.1.length≤t.1∧sz t.2.1≤t.1∧sz t.2.2≤t.1) (fun r:(((List Qy)))=>sz r≤32)
@[reducible,instance] def Q4v{x0 x1}:=mkW (Ai.eq_1 N x0 x1) (x0.length≤32) (fun r=>sz r≤32)
@[reducible,instance] def Q3s{x0 x1}{s}:=upL (N:=N) (s:=s) (Mm.eq_def N x0 x1) (fun t=>t) x0.2.2.2.2.2.1.length (fun t=>sz x0≤9223372036854775807∧sz x1≤9223372036854775807∧x0.2.2.2.2.2.1.length=x1.2.2.2.2.2.1.length) (fun r:((Unit)⊕(Bool))=>True)
@[reducible,instance] def Q94{x0 x1}:=mkW (Ih.eq_1 N x0 x1) (sz x0≤9223372036854775807∧sz x1≤9223372036854775807) (fun r=>True)
@[reducible,instance] def Q3t{x0 x1}:=mkW (E6.eq_1 N x0 x1) (sz x0≤9223372036854775807∧sz x1≤9223372036854775807) (fun r=>True)
@[reducible,instance] def Q3u{x0 x1}:=mkW (E7.eq_1 N x0 x1) (True) (fun r=>sz r≤sz x0)
@[reducible,instance] def Qej{x0}{s}:=upL (N:=N) (s:=s) (Um.eq_def N x0) (fun t=>t.1) x0.length (fun t=>sz x0≤32∧t.2.length≤t.1∧sz t.2≤32∧x0.length≤32) (fun r:(((List Qy)))=>sz r≤32)
@[reducible,instance] def Qge{x0}:=mkW (Y9.eq_1 N x0) (sz x0≤32) (fun r=>sz r≤32)
@[reducible,instance] def Qzk{r2}{s}:=upL (N:=N) (s:=s) (Iy.eq_def N r2) (fun t=>t.1) r2.length (fun t=>sz r2≤32∧t.2.length≤t.1∧sz t.2≤32∧r2.length≤32) (fun r:(((List Q7)))=>sz r≤32)
@[reducible,instance] def Q6z{x0 x1}:=mkW (G6.eq_1 N x0 x1) (x0.length≤32) (fun r=>sz r≤32)
@[reducible,instance] def Jcx{x0}:=mkW (V6.eq_1 N x0) (True) (fun r=>r=true→0≤x0.1∧x0.1<x0.2∧x0.2≤12622780800)
@[reducible,instance] def Q4w{x0 x1}:=mkW (Wn.eq_1 N x0 x1) (True) (fun r=>True)
@[reducible,instance] def Q95{r1 x2}{s}:=upL (N:=N) (s:=s) (Qbh.eq_def N r1 x2) (fun t=>t.1) r1.length (fun t=>sz r1≤9223372036854775807∧r1.length≤9223372036854775807) (fun r:((Qa×Str×Bool×Bool)⊕(Bool×Q7))=>sz r≤(sz r1))
@[reducible,instance] def Jir{x0 x1 x2}:=mkW (Qag.eq_1 N x0 x1 x2) (x0.length≤32) (fun r=>sz r≤32)
@[reducible,instance] def Jcy:=mkW (Mp.eq_1 N) (True) (fun r=>sz r≤0)
@[reducible,instance] def Jd5{x0 x1}:=mkW (Pe.eq_1 N x0 x1) (sz x0≤9223372036854775807) (fun r=>r.1.length=x0.length)
@[reducible,instance] def Q3v{x1 x2}{s}:=upL (N:=N) (s:=s) (Mq.eq_def N x1 x2) (fun t=>t.1) x1.length (fun t=>x1.length≤32∧t.2.length≤t.1) (fun r:(((Unit)⊕(Unit))×(List Qv))=>r.2.length≤32)
@[reducible,instance] def Q96{x1 x2}:=mkW (Ii.eq_1 N x1 x2) (x1.length≤32) (fun r=>r.length≤32)
@[reducible,instance] def Qwh{x0 x1}{s}:=upL (N:=N) (s:=s) (Bw.eq_def N x0 x1) (fun t=>t) x0.length (fun t=>sz x0≤9223372036854775807) (fun r:((Int))=>0≤r∧r≤x0.length)
@[reducible,instance] def Q3w{x0 x1}:=mkW (Xl.eq_1 N x0 x1) (sz x0≤1099511627776) (fun r=>r.length≤x0.length+1)
@[reducible,instance] def Qsk{x0 x1}{s}:=upL (N:=N) (s:=s) (H0.eq_def N x0 x1) (fun t=>t) x0.length (fun t=>sz x0≤9223372036854775807) (fun r:((Int))=>0≤r∧r≤x0.length)
@[reducible,instance] def Qwi{x0 x1}:=mkW (Zi.eq_1 N x0 x1) (sz x0≤1099511627776) (fun r=>r.length≤x0.length+1)
@[reducible,instance] def Q3x{x0 x1}{s}:=upL (N:=N) (s:=s) (Ms.eq_def N x0 x1) (fun t=>t.1) x0.length (fun t=>sz x0≤1099511627776∧t.2.length≤t.1∧sz t.2≤(sz x0)) (fun r:(((List Str)))=>sz r≤(sz x0))
@[reducible,instance] def Q97{x0 x1}:=mkW (Ee.eq_1 N x0 x1) (sz x0≤1099511627776) (fun r=>sz r≤(sz x0))
@[reducible,instance] def Qtr{x1 x2 ce cd cg ci cj ck cm}:=mkW (Xm.eq_1 N x1 x2 ce cd cg ci cj ck cm) (sz x1≤1099511627) (fun r=>sz r.1≤sz x1+1∧r.2.length≤ci.length+1)
@[reducible,instance] def Qoj{x1 cd}{s}:=upL (N:=N) (s:=s) (Gk.eq_def N x1 cd) (fun t=>t.1) ((((Qr (k:=(.int .i64)) x1.2.2.2.1 cd).getD (0,0,0,([]:Str),([]:List Str),([]:List Str),false,false)).2.2.2.2.1)).length (fun t=>sz cd≤1099511627∧t.2.length≤s.2.length∧cd.length≤1099511627) (fun r:(((List (Str×Int))))=>r.length≤s.2.length) (fun t h=>by have:=Qys cd x1.2.2.2.1; omega)
@[reducible,instance] def Qsw{x1 ce cd cg ci cj ck cm}:=mkW (Kt.eq_1 N x1 ce cd cg ci cj ck cm) (sz ce≤1099511627∧sz cd≤1099511627∧cg.length≤1099511627∧ci.length≤1099511627∧cj.length≤1099511627∧ck.length≤1099511627∧cm.length≤1099511627) (fun r=>sz r.1≤sz ce+1∧sz r.2.1≤sz cd+1∧r.2.2.1.length≤cg.length+1∧r.2.2.2.1.length≤ci.length+1∧r.2.2.2.2.1.length≤cj.length+1∧r.2.2.2.2.2.1.length≤ck.length+1∧r.2.2.2.2.2.2.length≤cm.length+1) (k:=by
  intro h
  have g0:=Qys cd; have g1:=Q93 ce
  try simp only[sS,reduceCtorEq]at *
  repeat' (first | intro _ | apply And.intro)
  all_goals first | (refine QN (C3 _ _ _) (VJ.2 ⟨?_,?_⟩)<;>(try simp only[sz1,mx1])<;>grind) | exact lv)
@[reducible,instance] def Qm3{cm cd}{s}:=upL (N:=N) (s:=s) (Wo.eq_def N cm cd) (fun t=>t.1) cm.length (fun t=>cm.length≤1099511627∧sz cd≤1099511627∧(sz t.2.1:Int)≤t.1∧t.2.2.length≤t.1∧sz t.2.2≤t.1+sz cd∧cd.length≤1099511627) (fun r:(((List (Int×(List Int)))×(List Jp)))=>sz r.1≤cm.length∧sz r.2≤cm.length+sz cd) (step:=by
  intro s h h0 h1 h2 hw
  have g0:=Qys cd; have g1:=Q3m s.2.1
  try simp only[sS,reduceCtorEq]at *
  repeat' (first | intro _ | apply And.intro)
  all_goals first | (refine Jll ?_ ?_<;>(try simp only[sz1,mx1,QI,JI,JO])<;>grind) | exact lv)
@[reducible,instance] def Qm4{ck ce v20}{s}:=upL (N:=N) (s:=s) (Wp.eq_def N ck ce v20) (fun t=>t.1) ck.length (fun t=>ck.length≤1099511627∧sz ce≤1099511627∧sz v20≤1099511627∧t.2.1.length≤t.1∧sz t.2.1≤3298534881∧sz t.2.2≤10995116270∧ce.length≤1099511627∧v20.length≤1099511627) (fun r:(((List Qm)×(List Jp)))=>sz r.1≤3298534881∧sz r.2≤10995116270) (step:=by
  intro s h h0 h1 h2 hw
  have g0:=Q93 ce; have g1:=Q3m v20
  try simp only[sS,reduceCtorEq]at *
  repeat' (first | intro _ | apply And.intro)
  all_goals first | exact lv)
@[reducible,instance] def Qsl{ce cd cg ci cj ck cm}:=mkW (Z8.eq_1 N ce cd cg ci cj ck cm) (sz ce≤1099511627∧sz cd≤1099511627∧cg.length≤1099511627∧ci.length≤1099511627∧cj.length≤1099511627∧ck.length≤1099511627∧cm.length≤1099511627) (fun r=>sz r.1≤10995116270∧sz r.2≤10995116270)
@[reducible,instance] def Q4x{es:List Qv}{s:(List (Int×Qm))×(List (Int×Jp))×(List (Int×Bool))×(List (Str×Int))×(List (Int×Int))×(List Int)×(List Int)}:=Jp7 (f:=Wq N) (es:=es) (fun n s=>es.length≤32∧(sz s.1:Int)≤n∧(sz s.2.1:Int)≤n∧(s.2.2.1.length:Int)≤n∧(s.2.2.2.1.length:Int)≤n∧(s.2.2.2.2.1.length:Int)≤n∧(s.2.2.2.2.2.1.length:Int)≤n∧(s.2.2.2.2.2.2.length:Int)≤n) (by
  intro n s e he h0 hn h
  show W (Wq N s e) _
  rw[Wq.eq_1]
  refine wp ?_
  try simp only[sS,reduceCtorEq]at *
  repeat' (first | intro _ | apply And.intro)
  all_goals first | assumption | omega) (s:=s)
@[reducible,instance] def Jcz{x0 x1}:=mkW (Aj.eq_1 N x0 x1) (x0.length≤32) (fun r=>sz r.1≤10995116270∧sz r.2≤10995116270)
@[reducible,instance] def Q98{r2 x1}{s}:=upL (N:=N) (s:=s) (Qbi.eq_def N r2 x1) (fun t=>t.1) r2.length (fun t=>sz r2≤10995116270∧r2.length≤10995116270) (fun r:((Int×Int×Int×Str×Bool×Bool)⊕(Bool×Jp))=>∀t,r=.inr t→sz t.2≤10995116270)
@[reducible,instance] def Jis{x0 x1 x2}:=mkW (Qah.eq_1 N x0 x1 x2) (x0.length≤32) (fun r=>sz r.1≤10995116270)
@[reducible,instance] def Qzl{r1 x1}{s}:=upL (N:=N) (s:=s) (Iz.eq_def N r1 x1) (fun t=>t.1) r1.length (fun t=>sz r1≤10995116270∧r1.length≤10995116270) (fun r:((Int×Int×Int×Bool×Bool)⊕(Bool×Qm))=>∀t,r=.inr t→sz t.2≤10995116270)
@[reducible,instance] def Q60{x0 x1 x2}:=mkW (Ci.eq_1 N x0 x1 x2) (x0.length≤32) (fun r=>sz r.1≤10995116270)
@[reducible,instance] def Qyy{x0}:=mkW (Gl.eq_1 N x0) (x0.length≤4096) (fun r=>r=x0)
@[reducible,instance] def Qts{x0}:=mkW (Xn.eq_1 N x0) (x0.length≤4096) (fun r=>r=x0)
@[reducible,instance] def Qtt{x0}:=mkW (Xo.eq_1 N x0) (x0.length≤4096) (fun r=>r=x0)
theorem Qb1{N:Nat}[X4 N]:∀(n:Nat) (e:Qj),dpt e≤n→sz e≤4096→W (Z9 N n e) fun r=>r=e
 | 0,e,h,hs=>by cases e with | mk a ks=>rw[dpt]at h; omega
 | n+1,e,h,hs=>by
  unfold Z9
  have hk:=Qhs (e:=e)
  have hlen:=Xp (l:=e.ks)
  have ih:∀x:Qj,WP (Z9 N n x) (fun R=>(x∈e.ks∧sz x≤4096)∧∀r:Qj,r=x→R r):=fun x=>D5 fun hx=>Qb1 n x (by have:=Jii hx.1; omega) hx.2
  have loop:=fun s:Int×List Qj=>upL (N:=N) (s:=s) (Qc3.eq_def N (Z9 N n) e) (fun s=>s.1) e.ks.length (fun s=>e.ks.length≤4096∧s.2=e.ks.take s.1.toNat) (fun r:List Qj=>r=e.ks) (step:=by
   intro s h h0 h1 h2 hw
   try simp only[sS,reduceCtorEq]at *
   repeat' (first | intro _ | apply And.intro)
   all_goals first | assumption | omega | grind [Y2,Vu])
  refine wp ?_
  simp only[forall_eq]
  refine⟨⟨⟨by omega,by simp⟩,by omega,by omega⟩,?_⟩
  cases e with
  | mk a ks=>rfl
@[reducible,instance] def Jjp{N:Nat}[hN:X4 N]{x0:Qj}:WP (Qmq N x0) (fun R=>(sz x0≤4096∧dpt x0≤4096)∧∀r:Qj,r=x0→R r):=D5 (by
  intro h
  have:=hN.le
  exact Qb1 N x0 (by omega) h.1)
@[reducible,instance] def Q99{x0}{s}:=upL (N:=N) (s:=s) (Qbj.eq_def N x0) (fun t=>t.1) x0.2.2.2.1.length (fun t=>sz x0≤4096∧t.2.1=x0.1∧t.2.2.1=x0.2.1∧t.2.2.2.1=x0.2.2.1∧t.2.2.2.2=x0.2.2.2.1.take t.1.toNat) (fun r:((Str×Int×Bool×(List Qq)))=>r.1=x0.1∧r.2.1=x0.2.1∧r.2.2.1=x0.2.2.1∧r.2.2.2=x0.2.2.2.1) (step:=by
  intro s h h0 h1 h2 hw
  try simp only[sS,reduceCtorEq]at *
  repeat' (first | intro _ | apply And.intro)
  all_goals first | grind [Y2,Vu,Ze.deep] | exact lv)
@[reducible,instance] def Jaa{x0}{s}:=upL (N:=N) (s:=s) (Qbk.eq_def N x0) (fun t=>t.1) x0.2.2.2.2.1.length (fun t=>sz x0≤4096∧t.2.1=x0.1∧t.2.2.1=x0.2.1∧t.2.2.2.1=x0.2.2.1∧t.2.2.2.2.1=x0.2.2.2.1∧t.2.2.2.2.2=x0.2.2.2.2.1.take t.1.toNat) (fun r:((Str×Int×Bool×(List Qq)×(List Qt)))=>r.1=x0.1∧r.2.1=x0.2.1∧r.2.2.1=x0.2.2.1∧r.2.2.2.1=x0.2.2.2.1∧r.2.2.2.2=x0.2.2.2.2.1) (step:=by
  intro s h h0 h1 h2 hw
  try simp only[sS,reduceCtorEq]at *
  repeat' (first | intro _ | apply And.intro)
  all_goals first | grind [Y2,Vu,Ze.deep] | exact lv)
@[reducible,instance] def Jab{x0}{s}:=upL (N:=N) (s:=s) (Qbl.eq_def N x0) (fun t=>t.1) x0.2.2.2.2.2.1.length (fun t=>sz x0≤4096∧t.2.1=x0.1∧t.2.2.1=x0.2.1∧t.2.2.2.1=x0.2.2.1∧t.2.2.2.2.1=x0.2.2.2.1∧t.2.2.2.2.2.1=x0.2.2.2.2.1∧t.2.2.2.2.2.2=x0.2.2.2.2.2.1.take t.1.toNat) (fun r:((Str×Int×Bool×(List Qq)×(List Qt)×(List Je)))=>r.1=x0.1∧r.2.1=x0.2.1∧r.2.2.1=x0.2.2.1∧r.2.2.2.1=x0.2.2.2.1∧r.2.2.2.2.1=x0.2.2.2.2.1∧r.2.2.2.2.2=x0.2.2.2.2.2.1) (step:=by
  intro s h h0 h1 h2 hw
  try simp only[sS,reduceCtorEq]at *
  repeat' (first | intro _ | apply And.intro)
  all_goals first | grind [Y2,Vu,Ze.deep] | exact lv)
@[reducible,instance] def Jac{x0}{s}:=upL (N:=N) (s:=s) (Qbm.eq_def N x0) (fun t=>t.1) x0.2.2.2.2.2.2.length (fun t=>sz x0≤4096∧Ze x0∧t.2.1=x0.1∧t.2.2.1=x0.2.1∧t.2.2.2.1=x0.2.2.1∧t.2.2.2.2.1=x0.2.2.2.1∧t.2.2.2.2.2.1=x0.2.2.2.2.1∧t.2.2.2.2.2.2.1=x0.2.2.2.2.2.1∧t.2.2.2.2.2.2.2=x0.2.2.2.2.2.2.take t.1.toNat) (fun r:((Str×Int×Bool×(List Qq)×(List Qt)×(List Je)×(List Qk)))=>r.1=x0.1∧r.2.1=x0.2.1∧r.2.2.1=x0.2.2.1∧r.2.2.2.1=x0.2.2.2.1∧r.2.2.2.2.1=x0.2.2.2.2.1∧r.2.2.2.2.2.1=x0.2.2.2.2.2.1∧r.2.2.2.2.2.2=x0.2.2.2.2.2.2) (step:=by
  intro s h h0 h1 h2 hw
  try simp only[sS,reduceCtorEq]at *
  repeat' (first | intro _ | apply And.intro)
  all_goals first | grind [Y2,Vu,Ze.deep] | exact lv)
@[reducible,instance] def Jit{x0}:=mkW (Qai.eq_1 N x0) (sz x0≤4096∧Ze x0) (fun r=>r=x0)
@[reducible,instance] def Jiu{x0 x1 x2}{s}:=upL (N:=N) (s:=s) (Qix.eq_def N x0 x1 x2) (fun t=>t.2) x0.length (fun t=>x0.length≤4096 ∧ -1≤t.1∧t.1<x0.length) (fun r:((Int)) => -1≤r∧r<x0.length)
@[reducible,instance] def Jos{x0 x1 x2}:=mkW (Qk0.eq_1 N x0 x1 x2) (sz x0≤4096∧Sh.sh x0∧Jk Ze x0) (fun r=>sz r≤4096∧Sh.sh r∧Jk (fun d=>dpt d.2.1≤4096) r.2.2.2.2.2.2.2) (k:=by
  intro h
  try simp only[sS,reduceCtorEq]at *
  repeat' (first | intro _ | apply And.intro)
  all_goals first | exact⟨fun _ h=>absurd h XD⟩ | exact⟨fun d hd=>absurd hd XD⟩ | exact Jk.all (And.right (And.right (by assumption))) _ (by assumption) | exact⟨Ze.deep (Jk.all (And.right (And.right (by assumption))) _ (by assumption))⟩ | exact lv)
@[reducible,instance] def Jd6{x0}{s}:=upL (N:=N) (s:=s) (Qf4.eq_def N x0) (fun t=>t) x0.length (fun t=>Sh.sh x0) (fun r:((Unit)⊕(Bool))=>True) (fun _ h=>Qht (by grind))
@[reducible,instance] def Jlm{x0}:=mkW (Qg0.eq_1 N x0) (Sh.sh x0) (fun r=>True)
@[reducible,instance] def Jd7{x0 ca}:=mkW (Pf.eq_1 N x0 ca) (True) (fun r=>True)
@[reducible,instance] def Qlv{x0 ca}{s}:=upL (N:=N) (s:=s) (Xu.eq_def N x0 ca) (fun t=>t) x0.length (fun t=>x0.length≤9223372036854775807) (fun r:((Unit)⊕(Int))=>∀t,r=.inr t→0≤t∧t<x0.length)
@[reducible,instance] def Qo3{x0 ca}:=mkW (Zn.eq_1 N x0 ca) (x0.length≤9223372036854775807) (fun r => -1≤r∧r<x0.length)
@[reducible,instance] def Qlw{x0 ca}:=mkW (Ug.eq_1 N x0 ca) (x0.length≤9223372036854775807) (fun r=>True)
@[reducible,instance] def Jiv{x0}:=mkW (Qaj.eq_1 N x0) (True) (fun r=>True)
@[reducible,instance] def Jad{x0}{s}:=upL (N:=N) (s:=s) (Qbn.eq_def N x0) (fun t=>t) x0.length (fun t=>Sh.sh x0) (fun r:((Unit)⊕(Bool))=>True) (fun _ h=>Qht (by grind))
@[reducible,instance] def Jiw{x0}:=mkW (Al.eq_1 N x0) (Sh.sh x0) (fun r=>True)
@[reducible,instance] def Jc0{x4}{s}:=upL (N:=N) (s:=s) (Qc4.eq_def N x4) (fun t=>t.1) x4.2.length (fun t=>x4.2.length≤9223372036854775807∧Sh.sh x4) (fun r:(((List (Str×Str)))⊕(Int))=>∀c,r=.inr c→c≠0)
@[reducible,instance] def Jc1{x0}{s}:=upL (N:=N) (s:=s) (Qc5.eq_def N x0) (fun t=>t.1) x0.length (fun t=>sz x0≤9223372036854775807∧Sh.sh x0∧x0.length≤9223372036854775807) (fun r:(((List (Str×Str)))⊕(Int))=>∀c,r=.inr c→c≠0)
@[reducible,instance] def Jjq{x0}:=mkW (Qc6.eq_1 N x0) (sz x0≤9223372036854775807∧Sh.sh x0) (fun r=>∀c,r=.inr c→c≠0)
@[reducible,instance] def Q61{x1 ca}{s}:=mkL (N:=N) (s:=s) (Sd.eq_def N x1 ca) (fun t=>t.toNat) (fun t=>List.length x1≤9223372036854775807∧t≤List.length x1) (fun r:((Unit)⊕(Str×Bool))=>True)
@[reducible,instance] def Jd8{x1 x2 ca}:=mkW (Pg.eq_1 N x1 x2 ca) (List.length x1≤9223372036854775807∧x2≤List.length x1) (fun r=>True)
@[reducible,instance] def Jln{x0 x1}:=mkW (Qak.eq_1 N x0 x1) (sz x0≤9223372036854775807∧Sh.sh x0∧Sh.sh x1∧List.length x1≤9223372036854775807) (fun r=>True)
@[reducible,instance] def Jae{x0:Int}:WP (Zt N x0) (fun R=>(2000≤x0∧x0≤2400)∧∀r:Int,r=bef x0→R r):=D5 fun h=>by
 obtain⟨h0,h1⟩:=h
 have e1:IntKind.wrap .i64 (x0 - 2000)=x0 - 2000:=Q2 (by omega) (by omega)
 have e2:IntKind.wrap .i64 (365*(x0 - 2000))=365*(x0 - 2000):=Q2 (by omega) (by omega)
 rw[Zt.eq_1,e1,e2]
 by_cases hc:x0 - 2000>0
 ·have e3:IntKind.wrap .i64 (x0 - 2000 - 1)=x0 - 2001:=by rw[Q2 (by omega) (by omega)]; omega
  rw[if_pos (by simpa using hc),e3,QT (by omega),QT (by omega),QT (by omega)]
  refine⟨_,rfl,?_⟩
  simp (disch:=omega) only [Q2]
  unfold bef
  rw[if_pos (by omega)]
  try omega
 ·rw[if_neg (by simpa using hc)]
  refine⟨_,rfl,?_⟩
  unfold bef
  rw[if_neg (by omega)]
  try omega
@[reducible,instance] def Qok{x0:Int}:WP (Pl N x0) (fun R=>True∧∀r:Bool,lpd x0=(if r=true then 1 else 0)→R r):=D5 fun h=>by
 refine⟨_,rfl,?_⟩
 unfold lpd
 simp only[JS,QQ,beq_iff_eq,bne_iff_ne,ne_eq]
@[reducible,instance] def Jd9{x0 x1:Int}:WP (Ka N x0 x1) (fun R=>(1≤x1∧x1≤12)∧∀r:Int,((28≤r∧r≤31)∧r=mon x0 x1)→R r):=D5 fun h=>by
 have hx:x1=1∨x1=2∨x1=3∨x1=4∨x1=5∨x1=6∨x1=7∨x1=8∨x1=9∨x1=10∨x1=11∨x1=12:=by omega
 unfold mon
 rcases hx with rfl | rfl | rfl | rfl | rfl | rfl | rfl | rfl | rfl | rfl | rfl | rfl
 case inr.inl =>
  obtain⟨b,e,hb⟩:=(Qok (N:=N) (x0:=x0)).spec (fun b=>lpd x0=(if b=true then 1 else 0)) ⟨trivial,fun _ h=>h⟩
  rw[Ka.eq_1,e]
  cases b
  ·exact⟨28,rfl,by simp at hb; rw[hb]; decide⟩
  ·exact⟨29,rfl,by simp at hb; rw[hb]; decide⟩
 all_goals exact⟨_,rfl,by simp⟩
@[reducible,instance] def Q62{x0}{s}:=mkL (N:=N) (s:=s) (Sg.eq_def N x0) (fun t=>(2400 - t.1).toNat) (fun t=>x0<146097∧2000≤t.1∧t.1≤2399∧bef t.1≤x0∧t.2.1=1∧t.2.2=0) (fun r:((F6))=>2000≤r.1∧r.1≤2399∧bef r.1≤x0∧x0<bef r.1+365+lpd r.1∧r.2.1=1) (step:=by
  intro s h
  have g0:=Jil s.1; have g1:=Jim; have g2:=(show 2000≤s.1∧s.1≤2399→IntKind.wrap .i64 (s.1+1)=s.1+1 from fun a=>Q2 (by omega) (by omega))
  try simp only[sS,reduceCtorEq]at *
  repeat' (first | intro _ | apply And.intro)
  all_goals first | exact lv)
@[reducible,instance] def Q63{s}:=mkL (N:=N) (s:=s) (Si.eq_def N) (fun t=>(13 - t.2.2.1).toNat) (fun t=>0≤t.1∧t.1≤366∧1≤t.2.2.1∧t.2.2.1≤12∧2000≤t.2.1∧t.2.1≤2399∧t.1<lft t.2.1 t.2.2.1∧t.2.1=s.2.1) (fun r:((Int×F6))=>0≤r.1∧r.1≤366∧2000≤r.2.1∧r.2.1≤2399∧1≤r.2.2.1∧r.2.2.1≤12∧r.2.1=s.2.1) (step:=by
  intro s h
  have g0:=Jik s.2.1; have g1:=Jin s.2.1 s.2.2.1; have g2:=Jqa s.2.1; have g3:=(show 1≤s.2.2.1∧s.2.2.1≤12→IntKind.wrap .i64 (s.2.2.1+1)=s.2.2.1+1 from fun a=>Q2 (by omega) (by omega)); have g4:=(show ∀d:Int,0≤s.1∧s.1≤366→28≤d∧d≤31→IntKind.wrap .i64 (s.1 - d)=s.1 - d from fun d a b=>Q2 (by omega) (by omega))
  try simp only[sS,reduceCtorEq]at *
  repeat' (first | intro _ | apply And.intro)
  all_goals first | exact lv)
@[reducible,instance] def Jea{x0}:=mkW (Pm.eq_1 N x0) (True) (fun r=>0≤r.1∧r.1≤2399∧0≤r.2.1∧r.2.1≤12∧0≤r.2.2∧r.2.2≤367∧(0≤x0→x0<146097→2000≤r.1∧365*(r.1 - 2000)≤x0∧1≤r.2.1)) (k:=by
  intro h
  have g0:=Jik; have g1:=Qyt; have g2:=Jrj; have g3:=(show 0≤x0∧x0<146097→IntKind.wrap .i64 (2000+IntKind.wrap .i64 (Int.tdiv x0 366))=2000+x0 / 366 from fun a=>by rw[QT (by omega),Q2 (n:=x0 / 366) (by omega) (by omega),Q2 (by omega) (by omega)]); have g4:=(show ∀y:Int,2000≤y→bef y≤x0→x0<146097→IntKind.wrap .i64 (x0 - bef y)=x0 - bef y from fun y a b c=>by have:=Qyt y a; exact Q2 (by omega) (by omega))
  try simp only[sS,reduceCtorEq]at *
  repeat' (first | intro _ | apply And.intro)
  all_goals first | exact lv)
@[reducible,instance] def Jc2{x0 x1}:=mkW (Gm.eq_1 N x0 x1) (True) (fun r => -24002≤r∧r≤4799∧(0≤x1→x1≤12622780799 → -1≤r∧r≤12*(x1 / 31536000)+11)) (k:=by
  intro h
  have g0:=(show ∀x:Int,0≤x∧x≤12622780799→IntKind.wrap .i64 (Int.tdiv x 86400)=x / 86400 from fun x a=>by rw[QT (by omega),Q2 (by omega) (by omega)])
  try simp only[sS,reduceCtorEq]at *
  repeat' (first | intro _ | apply And.intro)
  all_goals first | (have g1:=g0 x1; simp (disch:=omega) only [Q2]at *; omega) | exact lv)
@[reducible,instance] def Jaf{x0 x1}:=mkW (Im.eq_1 N x0 x1) (True) (fun r=>(r≠0→2000≤x0∧x0≤2399∧1≤x1∧x1≤12∧r≤31)∧(2000≤x0→x0≤2399→1≤x1→x1≤12→28≤r))
@[reducible,instance] def Jag{x0}{s}:=upI (N:=N) (s:=s) (Qbp.eq_def N x0) (fun t=>t.2) (x0.2.1) (fun t=>1≤t.2∧t.2≤x0.2.1∧x0.2.1≤12∧0≤t.1∧t.1≤366*400+31*t.2∧t.1≤s.1+31*(t.2 - s.2)) (fun r:((Int))=>0≤r∧r≤s.1+31*(x0.2.1 - s.2))
attribute [local instance 1300] Jio in
@[reducible,instance] def Jix{x0}:=mkW (Qan.eq_1 N x0) (True) (fun r=>(2000≤x0.1→x0.1≤2399→1≤x0.2.1→x0.2.1≤12→1≤x0.2.2→x0.2.2≤28→r.2=0∧0≤r.1∧r.1≤366*(x0.1 - 2000)+31*x0.2.1)) (k:=by
  intro h
  have g0:=Qyt; have g1:=(show 2000≤x0.1∧x0.1≤2399∧1≤x0.2.2∧x0.2.2≤31→IntKind.wrap .i64 (IntKind.wrap .i64 (bef x0.1+x0.2.2) - 1)=bef x0.1+x0.2.2 - 1 from fun a=>by have:=Qyt x0.1 a.1; rw[Q2 (n:=bef x0.1+x0.2.2) (by omega) (by omega),Q2 (by omega) (by omega)])
  try simp only[sS,reduceCtorEq]at *
  repeat' (first | intro _ | apply And.intro)
  all_goals first | exact lv)
@[reducible,instance] def Jc3{x0 x1}:=mkW (Ao.eq_1 N x0 x1) (True) (fun r=>0≤x1→x1<4788→1≤x0→x0≤28→r≤2678400*(x1+1)) (k:=by
  intro h
  have g0:=(show 0≤x1∧x1<4788→1≤x0∧x0≤28→∀w:Int×Int,(2000≤IntKind.wrap .i64 (2000+IntKind.wrap .i64 (Int.tdiv x1 12))→IntKind.wrap .i64 (2000+IntKind.wrap .i64 (Int.tdiv x1 12))≤2399→1≤IntKind.wrap .i64 (Int.tmod x1 12+1)→IntKind.wrap .i64 (Int.tmod x1 12+1)≤12→1≤x0→x0≤28→w.2=0∧0≤w.1∧w.1≤366*(IntKind.wrap .i64 (2000+IntKind.wrap .i64 (Int.tdiv x1 12)) - 2000)+31*IntKind.wrap .i64 (Int.tmod x1 12+1))→w.2=0∧IntKind.wrap .i64 (w.1*86400)≤2678400*(x1+1)from fun a b w h=>by rw[QT (by omega),XP (by omega),Q2 (n:=x1 / 12) (by omega) (by omega),Q2 (by omega) (by omega),Q2 (by omega) (by omega)]at h; have h:=h (by omega) (by omega) (by omega) (by omega) b.1 b.2; rw[Q2 (by omega) (by omega)]; omega)
  try simp only[sS,reduceCtorEq]at *
  repeat' (first | intro _ | apply And.intro)
  all_goals first | (have k:=fun a b=>g0 a b _ (by assumption); omega) | exact lv)
@[reducible,instance] def Q4y{x0 x1}:=mkW (Ws.eq_1 N x0 x1) (True) (fun r => -1≤x1→x1<4787→1≤x0→x0≤28→r.2≤2678400*(x1+2))
@[reducible,instance] def Q3y{x0 x1}{s}:=mkL (N:=N) (s:=s) (Mz.eq_def N x0 x1) (fun t=>(4801 - t.1).toNat) (fun t=>1≤x0∧x0≤28∧0≤x1.1∧x1.1<x1.2∧x1.2≤12622780800 ∧ -1≤t.1∧t.1≤4800∧t.2.length≤t.1+1∧(x1.2≤86400001→t.1≤36)∧(x1.2≤99100800→t.1≤48)∧(x1.2≤86400001→Jk (fun p:Int×Int=>p.2≤99100800) t.2)) (fun r:(((List Qa)))=>r.length≤30000∧(x1.2≤86400001→r.length≤37)∧(x1.2≤99100800→r.length≤49)∧(x1.2≤86400001→Jk (fun p:Int×Int=>p.2≤99100800) r)) (step:=by
  intro s h
  have g0:=(show 0≤x1.1∧x1.1<x1.2∧x1.2≤12622780800→IntKind.wrap .i64 (x1.2 - 1)=x1.2 - 1 from fun a=>Q2 (by omega) (by omega))
  try simp only[sS,reduceCtorEq]at *
  repeat' (first | intro _ | apply And.intro)
  all_goals first | exact Kz (by grind) (H9 (by grind)) | exact lv)
@[reducible,instance] def Jah{x0 x1}:=mkW (Ef.eq_1 N x0 x1) (True) (fun r=>r.length≤30000∧(x1.2≤86400001→r.length≤37)∧(x1.2≤99100800→r.length≤49)∧(x1.2≤86400001→Jk (fun p:Int×Int=>p.2≤99100800) r)) (k:=by
  intro h
  try simp only[sS,reduceCtorEq]at *
  repeat' (first | intro _ | apply And.intro)
  all_goals first | exact H8 | exact lv)
@[reducible,instance] def Q3z{x0}{s}:=upL (N:=N) (s:=s) (Mt.eq_def N x0) (fun t=>t.1) x0.length (fun t=>sz x0≤1000000000000∧t.2=x0.take t.1.toNat∧x0.length≤1000000000000) (fun r:(((List Qd)))=>r=x0) (step:=by
  intro s h h0 h1 h2 hw
  try simp only[sS,reduceCtorEq]at *
  repeat' (first | intro _ | apply And.intro)
  all_goals first | grind [Y2,Vu,Ze.deep] | exact lv)
@[reducible,instance] def Jai{x0}:=mkW (Ij.eq_1 N x0) (sz x0≤1000000000000) (fun r=>r=x0)
@[reducible,instance] def Jeb{x0}:=mkW (H1.eq_1 N x0) (sz x0≤1000000000000) (fun r=>r=x0)
@[reducible,instance] def Q4z{x0 x1 x2}{s}:=upL (N:=N) (s:=s) (Of.eq_def N x0 x1 x2) (fun t=>t) x0.length (fun t=>x0.length≤32) (fun r:((Unit)⊕(Bool))=>True)
@[reducible,instance] def Jc4{x0 x1 x2}:=mkW (Mu.eq_1 N x0 x1 x2) (x0.length≤32) (fun r=>True)
@[reducible,instance] def Q40{x0}{s}:=upL (N:=N) (s:=s) (Og.eq_def N x0) (fun t=>t.1) x0.length (fun t=>x0.length≤1000000000000∧Qgd t.2 x0.length) (fun r:(((List (Int×Int))))=>Qgd r x0.length) (step:=by
  intro s h h0 h1 h2 hw
  try simp only[sS,reduceCtorEq]at *
  repeat' (first | intro _ | apply And.intro)
  all_goals first | exact Qe4 | exact Qe5 (by grind) (by omega) (by omega) | exact lv)
@[reducible,instance] def Jc5{x0}:=mkW (Mv.eq_1 N x0) (x0.length≤1000000000000) (fun r=>Qgd r x0.length) (k:=by
  intro h
  try simp only[sS,reduceCtorEq]at *
  repeat' (first | intro _ | apply And.intro)
  all_goals first | exact Qe4 | exact Qe5 (by grind) (by omega) (by omega) | exact lv)
@[reducible,instance] def Jaj{x0 x1}{s}:=upL (N:=N) (s:=s) (Qbo.eq_def N x0 x1) (fun t=>t) x0.length (fun t=>x0.length≤1000000000000) (fun r:((Int))=>0≤r∧r≤x0.length)
@[reducible,instance] def Jiy{x0 x1}:=mkW (Qal.eq_1 N x0 x1) (x0.length≤1000000000000) (fun r=>0≤r.1∧r.1<r.2.length∧r.2.length≤x0.length+1) (k:=by
  intro h
  try simp only[sS,reduceCtorEq]at *
  repeat' (first | intro _ | apply And.intro)
  all_goals first | exact(Qe6 (by assumption) (by assumption)).1 | exact(Qe6 (by assumption) (by assumption)).2 | exact lv)
@[reducible,instance] def Q41{x0 x1 x2}:=mkW (Yr.eq_1 N x0 x1 x2) (True) (fun r=>True)
@[reducible,instance] def Jiz{x0}:=mkW (G7.eq_1 N x0) (True) (fun r=>True)
@[reducible,instance] def Ji0{x0}:=mkW (G8.eq_1 N x0) (True) (fun r=>True)
@[reducible,instance] def Jec{x0 x1}:=mkW (Vf.eq_1 N x0 x1) (True) (fun r=>True)
@[reducible,instance] def Jed{x0 x1}:=mkW (Pi.eq_1 N x0 x1) (True) (fun r=>True)
@[reducible,instance] def Q42{x0 x1 ca}:=mkW (Wr.eq_1 N x0 x1 ca) (True) (fun r=>True)
@[reducible,instance] def Ji1{x0 x1}:=mkW (Qam.eq_1 N x0 x1) (True) (fun r=>True)
@[reducible,instance] def Q30{x0 x2 r8 r7 x3}{s}:=upL (N:=N) (s:=s) (Mw.eq_def N x0 x2 r8 r7 x3) (fun t=>t.1) x0.length (fun t=>x0.length≤32∧0≤r7∧r7<r8.length) (fun r:((Qp))=>True)
@[reducible,instance] def Jak{x0 x1 x2 x3}:=mkW (Ik.eq_1 N x0 x1 x2 x3) (x0.length≤32∧sz x1≤1000000000000) (fun r=>r.1=x1.1∧r.2.1.length≤x1.2.1.length+1∧r.2.2=x1.2.2)
@[reducible,instance] def Ji2{x0}:=mkW (Am.eq_1 N x0) (sz x0≤1000000000000) (fun r=>r.2.2.2.2.2.2.2.2.2.2.length=x0.2.2.2.2.2.1.length)
@[reducible,instance] def Jot{x0}:=mkW (Se.eq_1 N x0) (sz x0≤9223372036854775807) (fun r=>True)
@[reducible,instance] def Q64{x0 x1}{s}:=upL (N:=N) (s:=s) (Sf.eq_def N x0 x1) (fun t=>t) x0.length (fun t=>x0.length≤32) (fun r:((Unit)⊕(Int))=>True)
@[reducible,instance] def Jee{x0 x1}:=mkW (Pj.eq_1 N x0 x1) (x0.length≤32) (fun r=>True)
@[reducible,instance] def Qwj{x0 ca}{s}:=upL (N:=N) (s:=s) (Bx.eq_def N x0 ca) (fun t=>t) x0.2.2.1.length (fun t=>sz x0≤32) (fun r:((Unit)⊕(Bool))=>True)
@[reducible,instance] def Q31{x0 ca}:=mkW (E8.eq_1 N x0 ca) (sz x0≤32) (fun r=>True)
@[reducible,instance] def Q32{x0 x1}:=mkW (E9.eq_1 N x0 x1) (True) (fun r=>True)
@[reducible,instance] def Q33{x0 x1}:=mkW (Fa.eq_1 N x0 x1) (True) (fun r=>True)
@[reducible,instance] def Qjt{x0}{s}:=upL (N:=N) (s:=s) (Ku.eq_def N x0) (fun t=>t.1) x0.length (fun t=>x0.length≤32∧t.2.length≤t.1) (fun r:(((List Qa)))=>r.length≤32)
@[reducible,instance] def Qm5{x0}:=mkW (Up.eq_1 N x0) (x0.length≤32) (fun r=>r.length≤32)
@[reducible,instance] def Qzm{r1 ca}{s}:=upL (N:=N) (s:=s) (I0.eq_def N r1 ca) (fun t=>t.1) r1.length (fun t=>sz r1≤32∧t.2.length≤t.1∧r1.length≤32) (fun r:(((List Qa)))=>r.length≤32)
@[reducible,instance] def Q65{x0 x1 ca}:=mkW (Ck.eq_1 N x0 x1 ca) (x0.length≤32) (fun r=>r.length≤32)
@[reducible,instance] def Q66{x0 x1 x2}:=mkW (Cl.eq_1 N x0 x1 x2) (x0.length≤32) (fun r=>r.length≤32)
@[reducible,instance] def Jef{x0 x1}:=mkW (Pk.eq_1 N x0 x1) (True) (fun r=>True)
@[reducible,instance] def Q34{v17 x1 x21 r53}{s}:=upL (N:=N) (s:=s) (Mx.eq_def N v17 x1 x21 r53) (fun t=>t) v17.length (fun t=>v17.length≤32) (fun r:((Int))=>0≤r∧r≤v17.length)
@[reducible,instance] def Q35{x0 x1}:=mkW (U9.eq_1 N x0 x1) (True) (fun r=>r.2=true→r.1.1<r.1.2∧0≤r.1.1∧r.1.2≤x0.2∧r.1.2≤x1.2)
@[reducible,instance] def Q36{x0 ca cd cg}:=mkW (Fb.eq_1 N x0 ca cd cg) (0≤ca∧ca≤86400000∧cd.length≤37888∧Jk (fun p:Int×Int=>p.2≤99100800) cd) (fun r=>r.length≤cd.length+37∧Jk (fun p:Int×Int=>p.2≤99100800) r) (k:=by
  intro h
  have g0:=(show 0≤ca∧ca≤86400000→IntKind.wrap .i64 (ca+1)=ca+1 from fun a=>Q2 (by omega) (by omega))
  try simp only[sS,reduceCtorEq]at *
  repeat' (first | intro _ | apply And.intro)
  all_goals first | exact Kz (by grind) (by grind) | exact lv)
@[reducible,instance] def Qwk{x0 x1}{s}:=upL (N:=N) (s:=s) (By.eq_def N x0 x1) (fun t=>t.1) x0.length (fun t=>x0.length≤37888∧Jk (fun p:Int×Int=>p.2≤99100800) x0∧0≤x1∧x1≤1∧s.2.length≤75776∧0≤s.1∧t.2.length≤s.2.length+2*(t.1 - s.1)∧Jk (A4 99100800) t.2) (fun r:(((List Q8)))=>r.length≤s.2.length+2*x0.length∧Jk (A4 99100800) r) (step:=by
  intro s h h0 h1 h2 hw
  try simp only[sS,reduceCtorEq]at *
  repeat' (first | intro _ | apply And.intro)
  all_goals first | exact Kz (by grind) (Q3o ⟨by grind,by grind [Jk.all]⟩ ⟨by grind,by grind [Jk.all]⟩) | exact lv)
@[reducible,instance] def Q37{x0 x1 ce}:=mkW (Fc.eq_1 N x0 x1 ce) (x0.length≤37888∧Jk (fun p:Int×Int=>p.2≤99100800) x0∧0≤x1∧x1≤1∧ce.length≤75776∧Jk (A4 99100800) ce) (fun r=>r.length≤ce.length+2*x0.length∧Jk (A4 99100800) r)
@[reducible,instance] def Qsm{x0 x1}{s}:=upL (N:=N) (s:=s) (H2.eq_def N x0 x1) (fun t=>t.1) x0.length (fun t=>x0.length≤37888∧Jk (fun p:Int×Int=>p.2≤99100800) x0∧0≤x1∧x1≤1∧s.2.length≤75776∧0≤s.1∧t.2.length≤s.2.length+2*(t.1 - s.1)∧Jk (A4 99100800) t.2) (fun r:(((List Q8)))=>r.length≤s.2.length+2*x0.length∧Jk (A4 99100800) r) (step:=by
  intro s h h0 h1 h2 hw
  try simp only[sS,reduceCtorEq]at *
  repeat' (first | intro _ | apply And.intro)
  all_goals first | exact Kz (by grind) (Q3o ⟨by grind,by grind [Jk.all]⟩ ⟨by grind,by grind [Jk.all]⟩) | exact lv)
@[reducible,instance] def Qwl{x0 x1 ce}:=mkW (Wd.eq_1 N x0 x1 ce) (x0.length≤37888∧Jk (fun p:Int×Int=>p.2≤99100800) x0∧0≤x1∧x1≤1∧ce.length≤75776∧Jk (A4 99100800) ce) (fun r=>r.length≤ce.length+2*x0.length∧Jk (A4 99100800) r)
@[reducible,instance] def Q67{x0 x1}:=mkW (Cm.eq_1 N x0 x1) (True) (fun r=>True)
@[reducible,instance] def Qzn{r3}{s}:=upL (N:=N) (s:=s) (I1.eq_def N r3) (fun t=>t.2.1) r3.length (fun t=>r3.length≤151552∧Jk (A4 99100800) r3∧t.2.2.2.length=2∧t.2.2.1.length≤t.2.1∧(t.1=true→1≤t.2.2.1.length)∧Jk (fun p:Int×Int=>p.2≤99100800) t.2.2.1) (fun r:(((List Qa)))=>r.length≤151552∧Jk (fun p:Int×Int=>p.2≤99100800) r) (step:=by
  intro s h h0 h1 h2 hw
  have g0:=h.2.1; have g1:=h.2.2.2.2.2; have g2:=(show ∀c∈r3,0≤c.2.1∧c.2.1≤1∧0≤c.1∧c.1≤99100800 from fun c hc=>have k:=h.2.1.all c hc; ⟨k.side.1,k.side.2,k.time.1,k.time.2⟩); have g3:=(show s.2.2.1.length≤151552→1≤s.2.2.1.length→IntKind.wrap .i64 ((s.2.2.1.length:Int) - 1)=(s.2.2.1.length:Int) - 1 from fun a b=>Q2 (by omega) (by omega))
  try simp only[sS,reduceCtorEq]at *
  repeat' (first | intro _ | apply And.intro)
  all_goals first | assumption | exact(g2 _ (by assumption)).1 | exact Int.lt_of_le_of_lt (g2 _ (by assumption)).2.1 (by omega) | exact Kz (by assumption) (H9 (by decide)) | exact Kz (by assumption) (H9 (show(0:Int)≤99100800 by decide)) | exact Qjq (by assumption) (g2 _ (by assumption)).2.2.2 | exact lv)
@[reducible,instance] def Q68{x0 x1}:=mkW (Cn.eq_1 N x0 x1) (x0.length≤37888∧Jk (fun p:Int×Int=>p.2≤99100800) x0∧x1.length≤37888∧Jk (fun p:Int×Int=>p.2≤99100800) x1) (fun r=>r.length≤151552∧Jk (fun p:Int×Int=>p.2≤99100800) r) (k:=by
  intro h
  try simp only[sS,reduceCtorEq]at *
  repeat' (first | intro _ | apply And.intro)
  all_goals first | exact H8 | exact Kz (by grind) (H9 (by grind)) | exact Qjq (by grind) (by grind [Jk.all,A4.side,A4.time]) | exact Qe7 (P:=A4 99100800) (by grind) (fun x h=>⟨h.side,by have:=h.time; omega⟩) | exact lv)
@[reducible,instance] def Jc6{x0}:=mkW (M2.eq_1 N x0) (x0.length≤37888∧Jk (fun p:Int×Int=>p.2≤99100800) x0) (fun r=>r.length≤151552∧Jk (fun p:Int×Int=>p.2≤99100800) r) (k:=by
  intro h
  try simp only[sS,reduceCtorEq]at *
  repeat' (first | intro _ | apply And.intro)
  all_goals first | exact H8 | exact Kz (by grind) (H9 (by grind)) | exact Qjq (by grind) (by grind [Jk.all,A4.side,A4.time]) | exact Qe7 (P:=A4 99100800) (by grind) (fun x h=>⟨h.side,by have:=h.time; omega⟩) | exact lv)
@[reducible,instance] def Q69{x22}{s}:=upL (N:=N) (s:=s) (Sj.eq_def N x22) (fun t=>t.1) x22.2.2.2.length (fun t=>x22.2.2.2.length≤32∧0≤t.2.2.1∧t.2.2.1≤86400000∧0≤s.1∧s.2.2.2.length≤36704∧t.2.2.2.length≤s.2.2.2.length+37*(t.1 - s.1)∧Jk (fun p:Int×Int=>p.2≤99100800) t.2.2.2∧t.2.2.1=s.2.2.1) (fun r:((Int×Int×(List Qa)))=>r.2.1=s.2.2.1∧r.2.2.length≤s.2.2.2.length+1184∧Jk (fun p:Int×Int=>p.2≤99100800) r.2.2)
@[reducible,instance] def Q7a{x0}{s}:=upL (N:=N) (s:=s) (Sl.eq_def N x0) (fun t=>t.1) x0.length (fun t=>sz x0≤32∧0≤t.2.2.1∧t.2.2.1≤86400000∧t.2.2.2.length≤1184*t.1∧Jk (fun p:Int×Int=>p.2≤99100800) t.2.2.2∧x0.length≤32) (fun r:((Int×(List Qa)))=>r.2.length≤37888∧Jk (fun p:Int×Int=>p.2≤99100800) r.2) (step:=by
  intro s h h0 h1 h2 hw
  try simp only[sS,reduceCtorEq]at *
  repeat' (first | intro _ | apply And.intro)
  all_goals first | exact H8 | exact Kz (by grind) (H9 (by grind)) | exact Qjq (by grind) (by grind [Jk.all,A4.side,A4.time]) | exact Qe7 (P:=A4 99100800) (by grind) (fun x h=>⟨h.side,by have:=h.time; omega⟩) | exact lv)
@[reducible,instance] def Q7b{r35 v33}{s}:=upL (N:=N) (s:=s) (Sm.eq_def N r35 v33) (fun t=>t.1) r35.length (fun t=>r35.length≤151552∧Jk (fun p:Int×Int=>p.2≤99100800) r35∧t.2.length≤49*t.1) (fun r:(((List Qa)))=>r.length≤7426048) (step:=by
  intro s h h0 h1 h2 hw
  have g0:=(fun p (hp:p∈r35)=>h.2.1.all p hp:∀p∈r35,p.2≤99100800)
  try simp only[sS,reduceCtorEq]at *
  repeat' (first | intro _ | apply And.intro)
  all_goals first | exact lv)
@[reducible,instance] def Jeg{x0 x1 x2}:=mkW (Pn.eq_1 N x0 x1 x2) (sz x0≤32∧0≤x2∧x2≤86400000) (fun r=>r.length≤7426048) (k:=by
  intro h
  try simp only[sS,reduceCtorEq]at *
  repeat' (first | intro _ | apply And.intro)
  all_goals first | exact H8 | exact lv)
@[reducible,instance] def Ji3{x0 ca ce}:=mkW (Qao.eq_1 N x0 ca ce) (True) (fun r=>True)
@[reducible,instance] def Qjw{x0 ca ce}{s}:=upL (N:=N) (s:=s) (K9.eq_def N x0 ca ce) (fun t=>t.1) x0.length (fun t=>x0.length≤32∧sz x0≤4096∧Jk (fun p:Qn=>p.2.2.2.2.2.length≤32) x0∧t.2.length≤t.1∧sz t.2≤4096∧Jk (fun p:Qn=>p.2.2.2.2.2.length≤32) t.2∧x0.length≤4096) (fun r:(((List Qn)))=>r.length≤32∧sz r≤4096∧Jk (fun p:Qn=>p.2.2.2.2.2.length≤32) r) (step:=by
  intro s h h0 h1 h2 hw
  try simp only[sS,reduceCtorEq]at *
  repeat' (first | intro _ | apply And.intro)
  all_goals first | exact H8 | exact Kz (by grind) (H9 (by grind [Jk.all])) | exact lv)
@[reducible,instance] def Qol{x0 ca ce}:=mkW (Za.eq_1 N x0 ca ce) (x0.length≤32∧sz x0≤4096∧Jk (fun p:Qn=>p.2.2.2.2.2.length≤32) x0) (fun r=>r.length≤32∧sz r≤4096∧Jk (fun p:Qn=>p.2.2.2.2.2.length≤32) r) (k:=by
  intro h
  try simp only[sS,reduceCtorEq]at *
  repeat' (first | intro _ | apply And.intro)
  all_goals first | exact H8 | exact lv)
@[reducible,instance] def Q7c{x0}{s}:=upL (N:=N) (s:=s) (Sn.eq_def N x0) (fun t=>t.1) x0.2.2.2.2.2.length (fun t=>x0.2.2.2.2.2.length≤32∧sz x0≤4096∧t.2=x0.2.2.2.2.2.take t.1.toNat) (fun r:(((List J5)))=>r=x0.2.2.2.2.2) (step:=by
  intro s h h0 h1 h2 hw
  try simp only[sS,reduceCtorEq]at *
  repeat' (first | intro _ | apply And.intro)
  all_goals first | grind [Y2,Vu,Ze.deep] | exact lv)
@[reducible,instance] def Jeh{x0}:=mkW (Po.eq_1 N x0) (x0.2.2.2.2.2.length≤32∧sz x0≤4096) (fun r=>r=x0)
@[reducible,instance] def Jlo{x0 x1 x2}:=mkW (Qg2.eq_1 N x0 x1 x2) (x0.length≤32∧sz x0≤4096∧Jk (fun p:Qn=>p.2.2.2.2.2.length≤32) x0) (fun r=>r.2.2.2.2.2.2.length≤32∧sz r.2.2.2.2.2.2≤4096) (k:=by
  intro h
  have g0:=(fun p l hp q=>q.all p hp:∀(p:Qn) (l:List Qn),p∈l→Jk (fun p:Qn=>p.2.2.2.2.2.length≤32) l→p.2.2.2.2.2.length≤32)
  try simp only[sS,reduceCtorEq]at *
  repeat' (first | intro _ | apply And.intro)
  all_goals first | assumption | omega | ((simp (disch:=omega) only [Q2]at *)<;>omega) | exact g0 _ _ (by assumption) (And.right (And.right (by assumption))) | exact lv)
@[reducible,instance] def Qsx{r12 x0 r4}{s}:=upL (N:=N) (s:=s) (Fn.eq_def N r12 x0 r4) (fun t=>t.1) r12.length (fun t=>r12.length≤32∧sz r12≤4096∧t.2.length≤t.1∧sz t.2≤4096∧r12.length≤4096) (fun r:(((List Ym)))=>r.length≤32∧sz r≤4096)
@[reducible,instance] def Qsy{x0 x2 x1}{s}:=upL (N:=N) (s:=s) (Fo.eq_def N x0 x2 x1) (fun t=>t) x0.2.2.2.length (fun t=>x0.2.2.2.length≤32∧x1.length≤32∧sz x1≤4096∧Jk (fun p:Qn=>p.2.2.2.2.2.length≤32) x1∧x1.length≤4096) (fun r:((Unit)⊕((List Ym)))=>∀t,r=.inr t→t.length≤32∧sz t≤4096)
@[reducible,instance] def Qyz{x0 x1 x2}:=mkW (Gn.eq_1 N x0 x1 x2) (sz x0≤32∧x1.length≤32∧sz x1≤4096∧Jk (fun p:Qn=>p.2.2.2.2.2.length≤32) x1) (fun r=>r.length≤32∧sz r≤4096)
@[reducible,instance] def Jal{x0 x1}:=mkW (Eg.eq_1 N x0 x1) (True) (fun r=>True)
@[reducible,instance] def Ji4{x0 x1 x2}:=mkW (Qap.eq_1 N x0 x1 x2) (sz x1≤4096) (fun r=>r.2.2.2.2.2.2.2.2.2.2.length≤4096)
@[reducible,instance] def Jei{x0 x1}:=mkW (Pp.eq_1 N x0 x1) (True) (fun r=>True)
@[reducible,instance] def Qzo{ce x1}{s}:=upL (N:=N) (s:=s) (I2.eq_def N ce x1) (fun t=>t.1) ce.length (fun t=>ce.length≤1000000000000∧t.2.2.2.2.2.2.2.2.2.2.2.length≤4096∧sz ce≤1000000000000) (fun r:((Int×Int×Str×Int×Int×Qa×Int×Int×Int×Bool×(List Str)))=>r.2.2.2.2.2.2.2.2.2.2.length≤4096)
@[reducible,instance] def Qzp{ce v40 v41 v42 v43 v44 v50 v45 v46 v47 v48 v49}{s}:=upL (N:=N) (s:=s) (I3.eq_def N ce v40 v41 v42 v43 v44 v50 v45 v46 v47 v48 v49) (fun t=>t) ce.length (fun t=>ce.length≤1000000000000) (fun r:((Int))=>0≤r∧r≤ce.length)
@[reducible,instance] def Q38{x0 x1}{s}:=upL (N:=N) (s:=s) (My.eq_def N x0 x1) (fun t=>t.1) x0.length (fun t=>x0.length≤32∧t.2.2.2.length≤t.1∧sz t.2.2.2≤32) (fun r:(((List Jh)))=>sz r≤32) (step:=by
  intro s h h0 h1 h2 hw
  try simp only[sS,reduceCtorEq]at *
  repeat' (first | intro _ | apply And.intro)
  all_goals first | exact Qgc _ | exact Jcq (by assumption) | exact Jip (by assumption) | exact lv)
@[reducible,instance] def Jam{x0 x1}:=mkW (Il.eq_1 N x0 x1) (x0.length≤32) (fun r=>sz r≤32)
@[reducible,instance] def Q7d{x1 ce cd}:=mkW (Co.eq_1 N x1 ce cd) (ce.length≤999999999999∧sz ce≤1000000000000∧sz x1≤4096) (fun r=>r.2.length≤ce.length+1∧sz r.2≤1000000000000)
@[reducible,instance] def Q43{x2}{s}:=upL (N:=N) (s:=s) (Oh.eq_def N x2) (fun t=>t.1) x2.1.length (fun t=>x2.1.length≤1000000000000∧sz x2.1≤1000000000000∧t.2.1.length≤t.1∧sz t.2.1≤1000000000000) (fun r:(((List Qd)×(List (Q5×Bool))))=>r.1.length≤x2.1.length∧sz r.1≤1000000000000)
@[reducible,instance] def Q44{r118 x4}{s}:=upL (N:=N) (s:=s) (Oi.eq_def N r118 x4) (fun t=>t.1) r118.length (fun t=>r118.length≤32∧sz r118≤4096∧0≤s.1∧s.2.1.length≤999999999900∧t.2.1.length≤s.2.1.length+(t.1 - s.1)∧sz t.2.1≤1000000000000∧r118.length≤4096) (fun r:(((List Qd)×(List (Q5×Bool))))=>r.1.length≤s.2.1.length+32∧sz r.1≤1000000000000)
@[reducible,instance] def Q45{r54 x1 x109 x4}{s}:=upL (N:=N) (s:=s) (Oj.eq_def N r54 x1 x109 x4) (fun t=>t.1) r54.length (fun t=>r54.length≤32∧sz r54≤32∧x1.length≤32∧sz x1≤4096∧Jk (fun p:Qn=>p.2.2.2.2.2.length≤32) x1∧0≤s.1∧s.2.1.length≤999999990000∧t.2.1.length≤s.2.1.length+32*(t.1 - s.1)∧sz t.2.1≤1000000000000∧x1.length≤4096) (fun r:(((List Qd)×(List (Q5×Bool))))=>r.1.length≤s.2.1.length+1024∧sz r.1≤1000000000000)
@[reducible,instance] def Q46{r56 r54 x1 x4}{s}:=upL (N:=N) (s:=s) (Ol.eq_def N r56 r54 x1 x4) (fun t=>t.1) r56.length (fun t=>r56.length≤7426048∧r54.length≤32∧sz r54≤32∧x1.length≤32∧sz x1≤4096∧Jk (fun p:Qn=>p.2.2.2.2.2.length≤32) x1∧0≤s.1∧s.2.1.length≤900000000000∧t.2.1.length≤s.2.1.length+1024*(t.1 - s.1)∧sz t.2.1≤1000000000000∧x1.length≤4096) (fun r:(((List Qd)×(List (Q5×Bool))))=>r.1.length≤s.2.1.length+7604273152∧sz r.1≤1000000000000)
@[reducible,instance] def Jc7{x0 x1 x2 x3 x4}:=mkW (M3.eq_1 N x0 x1 x2 x3 x4) (x0.length≤32∧x1.length≤32∧sz x1≤4096∧Jk (fun p:Qn=>p.2.2.2.2.2.length≤32) x1∧x2.1.length≤900000000000∧sz x2.1≤1000000000000∧x2.2.1.length≤1099511627∧x2.2.2.length≤1099511627∧x4≤86400000) (fun r=>r.1.length≤x2.1.length+7604273152∧sz r.1≤1000000000000∧r.2.1=x2.2.1∧r.2.2=x2.2.2)
@[reducible,instance] def Ji5{x0}:=mkW (Qaq.eq_1 N x0) (sz x0≤1000000000000) (fun r=>r.2.2.2.2.2.2.2.2.2.2.length=x0.2.2.2.2.2.1.length)
@[reducible,instance] def Q7e{x0}{s}:=upL (N:=N) (s:=s) (So.eq_def N x0) (fun t=>t.1) x0.length (fun t=>sz x0≤1000000000000∧t.2.length=t.1∧sz t.2≤1000000000000∧x0.length≤1000000000000) (fun r:(((List Qd)))=>r.length=x0.length∧sz r≤1000000000000)
@[reducible,instance] def Jej{x0}:=mkW (Pq.eq_1 N x0) (sz x0≤1000000000000) (fun r=>r.length=x0.length∧sz r≤1000000000000)
@[reducible,instance] def Jc8{x0 x1}:=mkW (Kv.eq_1 N x0 x1) (True) (fun r=>True)
@[reducible,instance] def Jc9{x0 x1}:=mkW (M4.eq_1 N x0 x1) (True) (fun r=>True)
theorem Qhv{N:Nat}[X4 N]{x2:Int}{L:Int}{s:Int×List Int}:WP (Qf (Cp N x2) N s) (fun R=>((0≤s.1∧s.1≤x2∧x2≤L∧L≤1000000000000)∧s.2=[])∧∀r:List Int,((r.length:Int)=x2 - s.1∧Jk (fun i:Int=>0≤i∧i<L) r)→R r):=⟨fun R h=>(mkL (N:=N) (s:=s) (Cp.eq_def N x2) (fun t=>(x2 - t.1).toNat) (fun t=>0≤s.1∧s.1≤t.1∧t.1≤x2∧x2≤L∧L≤1000000000000∧(t.2.length:Int)=t.1 - s.1∧Jk (fun i:Int=>0≤i∧i<L) t.2) (fun r:List Int=>(r.length:Int)=x2 - s.1∧Jk (fun i:Int=>0≤i∧i<L) r) (step:=by
  intro t h
  try simp only[sS,reduceCtorEq]at *
  repeat' (first | intro _ | apply And.intro)
  all_goals first | assumption | omega | ((simp (disch:=omega) only [Q2]at *)<;>omega) | exact Kz (by grind) (H9 (by grind)) | grind)).spec R ⟨⟨h.1.1.1,KL _,h.1.1.2.1,h.1.1.2.2.1,h.1.1.2.2.2,by rw[h.1.2]; simp,by rw[h.1.2]; exact H8⟩,h.2⟩⟩
attribute [local instance 1300] Jio in
@[reducible,instance] def Q7f{r6 r7 x0}{s}:=mkL (N:=N) (s:=s) (Sp.eq_def N r6 r7 x0) (fun t=>(r6.length - t.1+(r7.length - t.2.1)).toNat) (fun t=>r6.length+r7.length≤1000000000000∧Jk (fun i:Int=>0≤i∧i<(x0.length:Int)) r6∧Jk (fun i:Int=>0≤i∧i<(x0.length:Int)) r7∧0≤t.1∧t.1≤r6.length∧0≤t.2.1∧t.2.1≤r7.length∧(t.2.2.length:Int)=t.1+t.2.1∧Jk (fun i:Int=>0≤i∧i<(x0.length:Int)) t.2.2) (fun r:(((List Int)))=>r.length=r6.length+r7.length∧Jk (fun i:Int=>0≤i∧i<(x0.length:Int)) r) (step:=by
  intro s h
  have g0:=(fun i hi=>h.2.1.all i hi:∀i∈r6,0≤i∧i<(x0.length:Int)); have g1:=(fun i hi=>h.2.2.1.all i hi:∀i∈r7,0≤i∧i<(x0.length:Int))
  try simp only[sS,reduceCtorEq]at *
  repeat' (first | intro _ | apply And.intro)
  all_goals first | assumption | omega | ((simp (disch:=omega) only [Q2]at *)<;>omega) | exact(g0 _ (by assumption)).1 | exact(g0 _ (by assumption)).2 | exact(g1 _ (by assumption)).1 | exact(g1 _ (by assumption)).2 | exact Kz (by grind) (H9 (g0 _ (by assumption))) | exact Kz (by grind) (H9 (g1 _ (by assumption))) | exact lv)
theorem A5{N:Nat}[X4 N]{x0:List Qd}(hx:x0.length≤1000000000000):∀(n:Nat) (x1 x2:Int),0≤x1→x1≤x2→x2≤x0.length→x2 - x1<n→W (Uh N n x0 x1 x2) fun r=>(r.length:Int)=x2 - x1∧Jk (fun i:Int=>0≤i∧i<(x0.length:Int)) r
 | 0,x1,x2,h0,h1,h2,h3=>by omega
 | n+1,x1,x2,h0,h1,h2,h3=>by
  unfold Uh
  have e1:IntKind.wrap .i64 (x2 - x1)=x2 - x1:=Q2 (by omega) (by omega)
  have e2:IntKind.wrap .i64 (Int.tdiv (x2 - x1) 2)=(x2 - x1) / 2:=by rw[QT (by omega),Q2 (by omega) (by omega)]
  have e3:IntKind.wrap .i64 (x1+(x2 - x1) / 2)=x1+(x2 - x1) / 2:=Q2 (by omega) (by omega)
  rw[e1,e2,e3]
  by_cases hc:x2 - x1<2
  ·rw[if_pos (by simpa using hc)]
   obtain⟨r,e,hr⟩:=(Qhv (N:=N) (x2:=x2) (L:=x0.length) (s:=(x1,[]))).spec _ ⟨⟨⟨h0,h1,h2,by omega⟩,rfl⟩,fun r h=>h⟩
   rw[e]; exact⟨r,rfl,hr⟩
  ·rw[if_neg (by simpa using hc)]
   obtain⟨r6,f6,k6⟩:=A5 (N:=N) hx n x1 (x1+(x2 - x1) / 2) h0 (by omega) (by omega) (by omega)
   obtain⟨r7,f7,k7⟩:=A5 (N:=N) hx n (x1+(x2 - x1) / 2) x2 (by omega) (by omega) (by omega) (by omega)
   rw[f6]
   show W ((Uh N n x0 (x1+(x2 - x1) / 2) x2).bind _) _
   rw[f7]
   refine wp ?_
   refine⟨⟨by omega,by omega,by omega⟩,⟨by omega,k6.2,k7.2,KL _,Int.natCast_nonneg _,KL _,Int.natCast_nonneg _,rfl,H8⟩,fun r h=>⟨by omega,h.2⟩⟩
@[reducible,instance] def Jek{N:Nat}[hN:X4 N]{x0:List Qd}{x1 x2:Int}:WP (Qf5 N x0 x1 x2) (fun R=>(x0.length≤1000000000000∧0≤x1∧x1≤x2∧x2≤x0.length)∧∀r:List Int,((r.length:Int)=x2 - x1∧Jk (fun i:Int=>0≤i∧i<(x0.length:Int)) r)→R r):=D5 (by
  intro h
  have:=hN.le
  exact A5 (N:=N) h.1 N x1 x2 h.2.1 h.2.2.1 h.2.2.2 (by omega))
@[reducible,instance] def Q7g{x0 x4}{s}:=upL (N:=N) (s:=s) (Sq.eq_def N x0 x4) (fun t=>t) x0.2.2.2.2.2.1.length (fun t=>x0.2.2.2.2.2.1.length≤1000000000000) (fun r:((Unit)⊕(Bool))=>True)
@[reducible,instance] def Jel{x0 x1 x2 x3 x4 x5 x6}:=mkW (Pr.eq_1 N x0 x1 x2 x3 x4 x5 x6) (x0.2.2.2.2.2.1.length≤1000000000000) (fun r=>True)
@[reducible,instance] def Jou{x0}:=mkW (Qk1.eq_1 N x0) (sz x0≤9223372036854775807) (fun r=>True)
@[reducible,instance] def Jda{r2 x0 x1 x2 x3 x4 x5 x6}{s}:=upL (N:=N) (s:=s) (Qc7.eq_def N r2 x0 x1 x2 x3 x4 x5 x6) (fun t=>t.2.1) r2.length (fun t=>r2.length≤1000000000000∧Jk (fun i:Int=>0≤i∧i<(x0.length:Int)) r2∧sz x0≤1000000000000∧t.2.2.1.length=x0.length∧sz t.2.2.1≤1000000000000∧t.2.2.2.length≤t.2.1∧x0.length≤1000000000000) (fun r:((Int×(List Qd)×(List Ja)))=>r.2.1.length=x0.length∧sz r.2.1≤1000000000000∧r.2.2.length≤r2.length) (step:=by
  intro s h h0 h1 h2 hw
  have g0:=(fun i hi=>h.2.1.all i hi:∀i∈r2,0≤i∧i<(x0.length:Int))
  try simp only[sS,reduceCtorEq]at *
  repeat' (first | intro _ | apply And.intro)
  all_goals first | assumption | omega | exact(g0 _ (by assumption)).1 | exact(g0 _ (by assumption)).2 | exact Int.lt_of_lt_of_le (g0 _ (by assumption)).2 (by omega) | exact lv)
@[reducible,instance] def Jjr{x0 x1 x2 x3 x4 x5 x6 x7}:=mkW (Qc8.eq_1 N x0 x1 x2 x3 x4 x5 x6 x7) (sz x0≤1000000000000) (fun r=>r.2.1.length=x0.length∧sz r.2.1≤1000000000000∧r.2.2.length≤x0.length)
@[reducible,instance] def Jem{x0 x1 x2 x3}:=mkW (Ps.eq_1 N x0 x1 x2 x3) (sz x0≤1000000000000) (fun r=>r.2.1.length=x0.1.length∧sz r.2.1≤1000000000000∧r.2.2.1=x0.2.1∧r.2.2.2.1=x0.2.2∧r.2.2.2.2.length≤x0.1.length)
@[reducible,instance] def Jdb{x0 x1}:=mkW (M6.eq_1 N x0 x1) (True) (fun r=>True)
@[reducible,instance] def Jen{x0}{s}:=upL (N:=N) (s:=s) (Qf6.eq_def N x0) (fun t=>t) x0.length (fun t=>Sh.sh x0) (fun r:((Unit)⊕(Bool))=>True) (fun _ h=>Qht (by grind))
@[reducible,instance] def Jlp{x0}:=mkW (Qg3.eq_1 N x0) (Sh.sh x0) (fun r=>True)
@[reducible,instance] def Jeo{x0 ca}:=mkW (Pt.eq_1 N x0 ca) (True) (fun r=>True)
@[reducible,instance] def Qlx{x0 ca}{s}:=upL (N:=N) (s:=s) (Xv.eq_def N x0 ca) (fun t=>t) x0.length (fun t=>x0.length≤9223372036854775807) (fun r:((Unit)⊕(Int))=>True)
@[reducible,instance] def Qo4{x0 ca}:=mkW (Zo.eq_1 N x0 ca) (x0.length≤9223372036854775807) (fun r=>True)
@[reducible,instance] def Qly{x0 ca}:=mkW (Ui.eq_1 N x0 ca) (x0.length≤9223372036854775807) (fun r=>True)
@[reducible,instance] def Jdc{x0}{s}:=upL (N:=N) (s:=s) (Qc9.eq_def N x0) (fun t=>t) x0.length (fun t=>sz x0≤9223372036854775807) (fun r:((Unit)⊕(Int))=>True)
@[reducible,instance] def Jjs{x0}:=mkW (Qda.eq_1 N x0) (sz x0≤9223372036854775807) (fun r=>True)
@[reducible,instance] def Jdd{x0}{s}:=upL (N:=N) (s:=s) (Qdb.eq_def N x0) (fun t=>t) x0.length (fun t=>sz x0≤4096∧x0.length≤64∧Sh.sh x0∧x0.length≤4096) (fun r:((Unit)⊕(Int))=>∀c,r=.inr c→c≠0)
@[reducible,instance] def Jjt{x0}:=mkW (Dq.eq_1 N x0) (sz x0≤4096∧Sh.sh x0) (fun r=>r=0→1≤x0.length∧x0.length≤64)
@[reducible,instance] def Qzq{x0 x1}{s}:=upL (N:=N) (s:=s) (I4.eq_def N x0 x1) (fun t=>t) x0.length (fun t=>x0.length≤9223372036854775807) (fun r:((Unit)⊕(Int))=>True)
@[reducible,instance] def Q7h{x0 x1}:=mkW (Cq.eq_1 N x0 x1) (x0.length≤9223372036854775807) (fun r=>True)
@[reducible,instance] def Qzr{x0 x1}:=mkW (Hw.eq_1 N x0 x1) (x0.length≤9223372036854775807) (fun r=>True)
@[reducible,instance] def Q7i{x0}:=mkW (G9.eq_1 N x0) (True) (fun r=>0≤x0→x0<146097→0≤r) (k:=by
  intro h
  try simp only[sS,reduceCtorEq]at *
  repeat' (first | intro _ | apply And.intro)
  all_goals first | (rw[Q2 (by omega) (by omega),XP (by omega)]; omega) | exact lv)
@[reducible,instance] def Jov{x0 x1}:=mkW (Qez.eq_1 N x0 x1) (x0.length≤9223372036854775807∧0≤x1∧x1<146097) (fun r=>True)
@[reducible,instance] def Ji6{x0 ca ce}:=mkW (Qar.eq_1 N x0 ca ce) (True) (fun r=>True)
@[reducible,instance] def Qlz{x0 ca ce}{s}:=upL (N:=N) (s:=s) (Xw.eq_def N x0 ca ce) (fun t=>t) x0.length (fun t=>x0.length≤9223372036854775807) (fun r:((Unit)⊕(Int))=>True)
@[reducible,instance] def Qo5{x0 ca ce}:=mkW (Zp.eq_1 N x0 ca ce) (x0.length≤9223372036854775807) (fun r=>True)
@[reducible,instance] def Ql0{x0 ca ce}:=mkW (Uj.eq_1 N x0 ca ce) (x0.length≤9223372036854775807) (fun r=>True)
@[reducible,instance] def Jep{x0 x1 x2}{s}:=upL (N:=N) (s:=s) (Qf7.eq_def N x0 x1 x2) (fun t=>t) x0.length (fun t=>sz x0≤4096∧x0.length≤4096) (fun r:((Unit)⊕(Str))=>True)
@[reducible,instance] def Jlq{x0 x1 x2}:=mkW (Qas.eq_1 N x0 x1 x2) (sz x0≤4096∧1≤x0.length) (fun r=>True) (k:=by
  intro h
  have g0:=(Xp (l:=x0))
  try simp only[sS,reduceCtorEq]at *
  repeat' (first | intro _ | apply And.intro)
  all_goals first | exact lv)
@[reducible,instance] def Jqc{x0 x1 x2}:=mkW (Qiy.eq_1 N x0 x1 x2) (sz x0≤4096∧Sh.sh x0∧x1.length≤4096) (fun r=>True) (k:=by
  intro h
  have g0:=(show 0≤x2∧x2≤12622780799→IntKind.wrap .i64 (Int.tdiv x2 86400)=x2 / 86400 from fun a=>by rw[QT (by omega),Q2 (by omega) (by omega)])
  try simp only[sS,reduceCtorEq]at *
  repeat' (first | intro _ | apply And.intro)
  all_goals first | exact lv)
@[reducible,instance] def Jan{x3 x1}{s}:=upL (N:=N) (s:=s) (Qbq.eq_def N x3 x1) (fun t=>t.1) x3.2.length (fun t=>x3.2.length≤4096∧0≤s.1∧s.2.length≤1099511627∧t.2.length≤s.2.length+2*(t.1 - s.1)) (fun r:(((List Int)))=>r.length≤s.2.length+8192)
@[reducible,instance] def Jao{x0 x1}{s}:=upL (N:=N) (s:=s) (Qbr.eq_def N x0 x1) (fun t=>t.1) x0.length (fun t=>sz x0≤4096∧x0.length≤64∧0≤s.1∧t.2.length≤1+8192*t.1∧x0.length≤4096) (fun r:(((List Int)))=>r.length≤524289)
@[reducible,instance] def Ji7{x0 x1}:=mkW (Qat.eq_1 N x0 x1) (sz x0≤4096∧x0.length≤64) (fun r=>r.length≤524289)
@[reducible,instance] def Ji8{r9 v6 x2 x0 r8}{s}:=upL (N:=N) (s:=s) (Qiz.eq_def N r9 v6 x2 x0 r8) (fun t=>t.1) r9.length (fun t=>r9.length≤524289∧sz x0≤4096∧1≤x0.length∧0≤s.1∧s.2.length≤1099511627∧t.2.length≤s.2.length+(t.1 - s.1)∧x0.length≤4096) (fun r:(((List Z3)))=>r.length≤s.2.length+524289)
@[reducible,instance] def Ji9{x2 x1 x0}{s}:=mkL (N:=N) (s:=s) (Qi0.eq_def N x2 x1 x0) (fun t=>(146100 - t.1).toNat) (fun t=>sz x0≤4096∧1≤x0.length∧x0.length≤64∧x1.length≤4096∧0≤x2.1∧x2.1<x2.2∧x2.2≤12622780800∧x2.2 - x2.1≤2678400∧x2.1 / 86400≤t.1∧t.1≤x2.1 / 86400+33∧(t.2.length:Int)≤524289*(t.1 - x2.1 / 86400)∧x0.length≤4096) (fun r:(((List Z3)))=>r.length≤17301537) (step:=by
  intro s h
  have g0:=(show 0≤x2.1∧x2.1<x2.2∧x2.2≤12622780800→IntKind.wrap .i64 (Int.tdiv (IntKind.wrap .i64 (x2.2 - 1)) 86400)=(x2.2 - 1) / 86400 from fun a=>by rw[Q2 (n:=x2.2 - 1) (by omega) (by omega),QT (by omega),Q2 (by omega) (by omega)])
  try simp only[sS,reduceCtorEq]at *
  repeat' (first | intro _ | apply And.intro)
  all_goals first | exact lv)
attribute [local instance 1300] Jio in
@[reducible,instance] def Jow{x0 x1 x2}:=mkW (Qk2.eq_1 N x0 x1 x2) (sz x0≤4096∧Sh.sh x0∧x1.length≤4096) (fun r=>r.length≤17301537) (k:=by
  intro h
  have g0:=(show 0≤x2.1∧x2.1<x2.2∧x2.2≤12622780800→IntKind.wrap .i64 (Int.tdiv x2.1 86400)=x2.1 / 86400∧IntKind.wrap .i64 (x2.2 - x2.1)=x2.2 - x2.1 from fun a=>⟨by rw[QT (by omega),Q2 (by omega) (by omega)],Q2 (by omega) (by omega)⟩)
  try simp only[sS,reduceCtorEq]at *
  repeat' (first | intro _ | apply And.intro)
  all_goals first | exact lv)
@[reducible,instance] def Jde{x0 ca ce cd}:=mkW (M7.eq_1 N x0 ca ce cd) (True) (fun r=>True)
@[reducible,instance] def Jap{x0 x1 x2 x3}{s}:=upL (N:=N) (s:=s) (Qbs.eq_def N x0 x1 x2 x3) (fun t=>t.1) x0.2.2.2.2.2.1.length (fun t=>sz x0≤4096∧x0.2.2.2.2.2.1.length≤4096) (fun r:((Int×Str×Str×Int)⊕(Bool×Int×Str×Str×Int×(List Vt)))=>∀t,r=.inr t→t.2.2.2.2.2.length≤4096)
@[reducible,instance] def Jja{x0 x1 x2 x3}:=mkW (Qau.eq_1 N x0 x1 x2 x3) (sz x0≤4096) (fun r=>r.2.2.2.2.2.length≤4096)
@[reducible,instance] def Q47{x1 x0}{s}:=Qlt (N:=N) (s:=s) (Om.eq_def N x1 x0) x1 (x1.length≤9223372036854775807) (fun y=>0≤y∧y≤x0) (∀y∈x1,0≤y∧y≤x0) (fun u=>u=false)
@[reducible,instance] def Jdf{x0 x1}:=mkW (Gp.eq_1 N x0 x1) (x1.length≤9223372036854775807) (fun r=>r=true→Q3p x0 x1) (k:=by
  intro h
  try simp only[sS,reduceCtorEq]at *
  repeat' (first | intro _ | apply And.intro)
  all_goals first | exact Q3q (by assumption) | exact lv)
@[reducible,instance] def Qzs{ca}{s}:=upL (N:=N) (s:=s) (I5.eq_def N ca) (fun t=>t.2) ca.length (fun t=>ca.length≤64∧Qjp Qlu ca t.2) (fun r:((Unit)⊕(Int))=>(∀u,r=.inl u→∀y∈ca,Qlu y)∧∀u,r=.inr u→u≠0) (step:=by
  intro s h h0 h1 h2 hw
  try simp only[sS,reduceCtorEq]at *
  repeat' (first | intro _ | apply And.intro)
  all_goals first | exact Qa9 | (rw[hw (by assumption)]; exact Qba h0 h.2 (by assumption) (Jcr (by grind) (by grind) (by grind))) | exact Qe1 h.2 (by omega) _ (by assumption) | exact lv)
@[reducible,instance] def Q7j{ca}:=mkW (Cr.eq_1 N ca) (ca.length≤9223372036854775807) (fun r=>r=0→Jk Qlu ca∧ca.length≤64) (k:=by
  intro h
  try simp only[sS,reduceCtorEq]at *
  repeat' (first | intro _ | apply And.intro)
  all_goals first | exact⟨by assumption⟩ | exact lv)
@[reducible,instance] def Q39{ca x1}{s}:=upL (N:=N) (s:=s) (M8.eq_def N ca x1) (fun t=>t.2.2) ca.length (fun t=>ca.length≤64∧Jk Qlu ca∧0≤t.2.1∧t.2.1≤2199023255552∧x1≤2199023255552) (fun r:((Int)⊕(Int×Bool))=>True) (step:=by
  intro s h h0 h1 h2 hw
  have g0:=(fun y hy=>⟨(h.2.1.all y hy).upto,(h.2.1.all y hy).inc,(h.2.1.all y hy).price⟩:∀y∈ca,(0≤y.1∧y.1≤1099511627776)∧(1≤y.2.1∧y.2.1≤1099511627776)∧(0≤y.2.2∧y.2.2≤1125899906842624)); have g1:=Jiq
  try simp only[sS,reduceCtorEq]at *
  repeat' (first | intro _ | apply And.intro)
  all_goals first | exact Jrk (by assumption) (g0 _ (by assumption)).2.1 (by assumption) h.2.2.1 (by first | omega | (have k:=(g0 _ (by assumption)).1.2; split<;>omega)) | (have k:=(g0 _ (by assumption)).1.2; split<;>omega) | exact lv)
@[reducible,instance] def Jaq{x1 ca}:=mkW (Eh.eq_1 N x1 ca) (ca.length≤64∧Jk Qlu ca∧x1≤2199023255552) (fun r=>True)
@[reducible,instance] def Q48{x1 x2 ca}:=mkW (Ap.eq_1 N x1 x2 ca) (ca.length≤9223372036854775807) (fun r=>True) (k:=by
  intro h
  have g0:=(show 0≤x1∧x1≤1099511627776→0≤x2∧x2≤1099511627776→IntKind.wrap .i64 (x1+x2)=x1+x2 from fun a b=>Q2 (by omega) (by omega)); have g1:=(show 0≤x1∧x1≤1099511627776→IntKind.wrap .i64 (1099511627776 - x1)=1099511627776 - x1 from fun a=>Q2 (by omega) (by omega))
  try simp only[sS,reduceCtorEq]at *
  repeat' (first | intro _ | apply And.intro)
  all_goals first | exact lv)
@[reducible,instance] def Q49{r7}{s}:=upL (N:=N) (s:=s) (On.eq_def N r7) (fun t=>t.1) r7.length (fun t=>r7.length≤17301537∧t.2.length≤t.1) (fun r:(((List Qo)))=>r.length≤17301537)
@[reducible,instance] def Jdg{x0 x1 x2 x3}:=mkW (M9.eq_1 N x0 x1 x2 x3) (sz x0≤4096∧Sh.sh x0.2.2.2.2.1∧x1.length≤4096) (fun r=>r.length≤17301537)
@[reducible,instance] def Q7k{r3 x0 x2 r1}{s}:=upL (N:=N) (s:=s) (Sr.eq_def N r3 x0 x2 r1) (fun t=>t.2.2.2.2.1) r3.length (fun t=>r3.length≤17301537∧sz x0≤4096∧t.2.2.2.2.2.length=r3.length) (fun r:((Int×Int×Int×(List Qo)))=>r.2.2.2.length≤17301537)
@[reducible,instance] def Jeq{x0 x1 x2 x3}:=mkW (Pu.eq_1 N x0 x1 x2 x3) (sz x0≤4096∧Sh.sh x0.2.2.2.1∧Sh.sh x0.2.2.2.2.1∧x1.length≤4096∧Sh.sh x2.2.2.2.2.2.1∧List.length x2.2.2.2.2.2.1≤9223372036854775807) (fun r=>r.2.2.length≤17301537)
@[reducible,instance] def Q5a{r3}{s}:=upL (N:=N) (s:=s) (Oo.eq_def N r3) (fun t=>t.2) r3.length (fun t=>r3.length≤17301537) (fun r:((Int))=>True)
@[reducible,instance] def Jdh{x0 x1}:=mkW (Nb.eq_1 N x0 x1) (True) (fun r=>True)
@[reducible,instance] def Q4a{x0 x1:Qi}{s:Int}:WP (Qf (Zb N x0 x1) N s) (fun R=>(0≤s∧s≤3)∧∀r:Unit⊕Int,True→R r):=⟨fun R h=>(mkL (N:=N) (s:=s) (f':=Zb N x0 x1) (B:=fun t S=>0≤t∧t≤3∧∀r,(match r with | .inl t'=>(0≤t'∧t'≤3)∧(3 - t').toNat<(3 - t).toNat | .inr _=>True)→S r) (hf:=⟨fun t S h=>by
  obtain⟨h0,h1,k⟩:=h
  have hx:t=0∨t=1∨t=2∨t=3:=by omega
  have go:∀(t:Int) (a b:Int),0≤t→t<3→idx ([([x0.1,x1.1]:List Int),([x0.2.1,x1.2.1]:List Int),([x0.2.2.1,x1.2.2.1]:List Int)]:List (List Int)) t=some [a,b]→∃r,Zb N x0 x1 t=some r∧(match r with | .inl t'=>(0≤t'∧t'≤3)∧(3 - t').toNat<(3 - t).toNat | .inr _=>True):=fun t a b h0 h1 e=>by
   have hw:IntKind.wrap .i64 (t+1)=t+1:=Q2 (by omega) (by omega)
   unfold Zb
   rw[if_pos (by simpa using h1),e]
   by_cases c1:a<b
   ·refine⟨.inr (.inr (-1)),?_,trivial⟩
    show(if decide (a<b)=true then _ else _)=_
    rw[if_pos (by simpa using c1)]
   ·by_cases c2:a>b
    ·refine⟨.inr (.inr 1),?_,trivial⟩
     show(if decide (a<b)=true then _ else _)=_
     rw[if_neg (by simpa using c1)]
     show(if decide (a>b)=true then _ else _)=_
     rw[if_pos (by simpa using c2)]
    ·refine⟨.inl (t+1),?_,⟨by omega,by omega⟩,by omega⟩
     show(if decide (a<b)=true then _ else _)=_
     rw[if_neg (by simpa using c1)]
     show(if decide (a>b)=true then _ else _)=_
     rw[if_neg (by simpa using c2),hw]
  rcases hx with rfl | rfl | rfl | rfl
  ·obtain⟨r,e,hr⟩:=go 0 x0.1 x1.1 (by omega) (by omega) rfl; exact⟨r,e,k r hr⟩
  ·obtain⟨r,e,hr⟩:=go 1 x0.2.1 x1.2.1 (by omega) (by omega) rfl; exact⟨r,e,k r hr⟩
  ·obtain⟨r,e,hr⟩:=go 2 x0.2.2.1 x1.2.2.1 (by omega) (by omega) rfl; exact⟨r,e,k r hr⟩
  ·exact⟨.inr (.inl ()),rfl,k _ trivial⟩⟩) (fun _=>rfl) (fun t=>(3 - t).toNat) (fun t=>0≤t∧t≤3) (fun _=>True) (hμ:=fun t h=>by omega) (step:=fun t h=>⟨h.1,h.2,fun r hr=>by cases r<;>exact hr⟩)).spec R h⟩
@[reducible,instance] def Jar{x0 x1}:=mkW (Xx.eq_1 N x0 x1) (True) (fun r=>True)
@[reducible,instance] def Jdi{x0 x1 x2 x3}{s}:=upL (N:=N) (s:=s) (Qdc.eq_def N x0 x1 x2 x3) (fun t=>t.1) x0.length (fun t=>x0.length≤9223372036854775807) (fun r:((Qi)⊕(Qi))=>True)
@[reducible,instance] def Jju{x0 x1 x2 x3}:=mkW (Qdd.eq_1 N x0 x1 x2 x3) (x0.length≤9223372036854775807) (fun r=>True)
@[reducible,instance] def Jjb{x0:Qb}{x1 x2:Str}{x3:Qi}{x4:Bool}:WP (Lk N x0 x1 x2 x3 x4) (fun R=>True∧∀r:V5,True→R r):=D5 fun h=>by
 rw[Lk.eq_1]
 refine wp ?_
 have e:∀(i:Int) (x:Int),([86400,60]:List Int)[i.toNat]?=some x→x∈([86400,60]:List Int)→x≠0:=fun i x _ h=>by
  rcases QX.1 h with rfl | h
  ·decide
  ·rw[JR.1 h]; decide
 refine⟨fun _=>trivial,fun _=>?_⟩
 refine⟨by decide,fun y hy _ _ _=>⟨by decide,fun y2 hy2 _ _ e2=>⟨e _ _ e2 hy2,⟨trivial,fun r hr=>⟨by decide,fun y3 _ _ _ _=>⟨by decide,fun y4 hy4 _ _ e4=>⟨e _ _ e4 hy4,⟨by decide,fun y5 _ _ _ _=>⟨by decide,fun y6 hy6 _ _ e6=>⟨e _ _ e6 hy6,trivial⟩⟩⟩⟩⟩⟩⟩⟩⟩⟩
@[reducible,instance] def Q7l{x1 x0 x2}{s}:=mkL (N:=N) (s:=s) (Ss.eq_def N x1 x0 x2) (fun t=>(t.2.2+1).toNat) (fun t=>1≤x2∧t.2.2≤62) (fun r:((Int×Int)⊕(Int×Int))=>True)
@[reducible,instance] def Jer{x0 x1 x2}:=mkW (Pw.eq_1 N x0 x1 x2) (1≤x2) (fun r=>True)
@[reducible,instance] def Jdj{x0}:=mkW (Nd.eq_1 N x0) (True) (fun r=>True)
@[reducible,instance] def Jjc{x0 x1 x2}:=mkW (Qaw.eq_1 N x0 x1 x2) (True) (fun r=>True)
@[reducible,instance] def Jdk{x0 x1}:=mkW (Nf.eq_1 N x0 x1) (True) (fun r=>True)
@[reducible,instance] def Jjv{x0}:=mkW (Or.eq_1 N x0) (True) (fun r=>True)
@[reducible,instance] def Jjd{x0 x1}:=mkW (Qax.eq_1 N x0 x1) (True) (fun r=>True)
@[reducible,instance] def Qy0{ca}{s}:=upL (N:=N) (s:=s) (Dr.eq_def N ca) (fun t=>t.1) ca.length (fun t=>ca.length≤1000000000000∧Qgd t.2 ca.length) (fun r:(((List (Int×Int))))=>Qgd r ca.length) (step:=by
  intro s h h0 h1 h2 hw
  try simp only[sS,reduceCtorEq]at *
  repeat' (first | intro _ | apply And.intro)
  all_goals first | exact Qe4 | exact Qe5 (by grind) (by omega) (by omega) | exact lv)
@[reducible,instance] def Q5b{ca}:=mkW (Ar.eq_1 N ca) (ca.length≤1000000000000) (fun r=>Qgd r ca.length) (k:=by
  intro h
  try simp only[sS,reduceCtorEq]at *
  repeat' (first | intro _ | apply And.intro)
  all_goals first | exact Qe4 | exact Qe5 (by grind) (by omega) (by omega) | exact lv)
@[reducible,instance] def Jjw{x0 x1 x2 x3}:=mkW (Qdf.eq_1 N x0 x1 x2 x3) (sz x0≤1000000000000) (fun r=>r.2.2.1=x0.1∧r.2.2.2.1.length=x0.2.1.length∧r.2.2.2.2=x0.2.2) (k:=by
  intro h
  try simp only[sS,reduceCtorEq]at *
  repeat' (first | intro _ | apply And.intro)
  all_goals first | exact(Qe6 (by assumption) (by grind)).1 | exact(Qe6 (by assumption) (by grind)).2 | exact lv)
@[reducible,instance] def Q7m{x0}{s}:=upI (N:=N) (s:=s) (Su.eq_def N x0) (fun t=>t) (4) (fun t=>0≤t) (fun r:((Unit)⊕(Bool))=>True)
@[reducible,instance] def Jes{x0}:=mkW (Py.eq_1 N x0) (True) (fun r=>True)
@[reducible,instance] def Q5c{x0}:=mkW (Wt.eq_1 N x0) (True) (fun r=>True)
@[reducible,instance] def Jdl{x0}:=mkW (Gq.eq_1 N x0) (True) (fun r=>True)
@[reducible,instance] def Q7n{x0}{s}:=upL (N:=N) (s:=s) (Sv.eq_def N x0) (fun t=>t) x0.length (fun t=>x0.length≤9223372036854775807) (fun r:((Unit)⊕(Bool))=>True)
@[reducible,instance] def Jet{x0}:=mkW (Pz.eq_1 N x0) (x0.length≤9223372036854775807) (fun r=>True)
@[reducible,instance] def Q7o{ca ce}{s}:=upL (N:=N) (s:=s) (Sw.eq_def N ca ce) (fun t=>t) ca.length (fun t=>ca.length≤1099511627776) (fun r:((Unit)⊕(Int×Int))=>∀t,r=.inr t→0≤t.1∧t.1≤t.2∧t.2≤t.1+1∧t.1<ca.length)
@[reducible,instance] def Jeu{ca ce}:=mkW (P0.eq_1 N ca ce) (ca.length≤1099511627776) (fun r=>0≤r.1∧r.1≤r.2∧r.2≤r.1+1∧r.2≤ca.length)
@[reducible,instance] def Jjx{x0 x1}:=mkW (Qdg.eq_1 N x0 x1) (x0.length≤1099511627776) (fun r=>r.2.length≤x0.length+1)
theorem Gy{N:Nat}[X4 N]:∀(n:Nat) (e:Qj),dpt e≤n→sz e≤4096→W (J3 N n e) fun r=>r=e
 | 0,e,h,hs=>by cases e with | mk a ks=>rw[dpt]at h; omega
 | n+1,e,h,hs=>by
  unfold J3
  have hk:=Qhs (e:=e)
  have hlen:=Xp (l:=e.ks)
  have ih:∀x:Qj,WP (J3 N n x) (fun R=>(x∈e.ks∧sz x≤4096)∧∀r:Qj,r=x→R r):=fun x=>D5 fun hx=>Gy n x (by have:=Jii hx.1; omega) hx.2
  have loop:=fun s:Int×Int×Int×Str×List Qj=>upL (N:=N) (s:=s) (Hd.eq_def N (J3 N n) e) (fun s=>s.1) e.ks.length (fun t=>e.ks.length≤4096∧t.2.1=s.2.1∧t.2.2.1=s.2.2.1∧t.2.2.2.1=s.2.2.2.1∧t.2.2.2.2=e.ks.take t.1.toNat) (fun r:Int×Int×Str×List Qj=>r=(s.2.1,s.2.2.1,s.2.2.2.1,e.ks)) (step:=by
   intro s h h0 h1 h2 hw
   try simp only[sS,reduceCtorEq]at *
   repeat' (first | intro _ | apply And.intro)
   all_goals first | assumption | omega | grind [Y2,Vu])
  refine wp ?_
  simp only[forall_eq]
  refine⟨⟨⟨by omega,trivial,trivial,trivial,by simp⟩,by simp,by simp⟩,?_⟩
  cases e with
  | mk a ks=>rfl
@[reducible,instance] def Qtu{N:Nat}[hN:X4 N]{x0:Qj}:WP (As N x0) (fun R=>(sz x0≤4096∧dpt x0≤4096)∧∀r:Qj,r=x0→R r):=D5 (by
  intro h
  have:=hN.le
  exact Gy N x0 (by omega) h.1)
@[reducible,instance] def Qm6{x0}{s}:=upL (N:=N) (s:=s) (Wu.eq_def N x0) (fun t=>t.1) x0.2.2.2.1.length (fun t=>sz x0≤4096∧t.2.1=s.2.1∧t.2.2.1=s.2.2.1∧t.2.2.2.1=s.2.2.2.1∧t.2.2.2.2=x0.2.2.2.1.take t.1.toNat) (fun r:((Str×Int×Bool×(List Qq)))=>r.1=s.2.1∧r.2.1=s.2.2.1∧r.2.2.1=s.2.2.2.1∧r.2.2.2=x0.2.2.2.1) (step:=by
  intro s h h0 h1 h2 hw
  try simp only[sS,reduceCtorEq]at *
  repeat' (first | intro _ | apply And.intro)
  all_goals first | grind [Y2,Vu,Ze.deep] | exact lv)
@[reducible,instance] def Qm7{x0}{s}:=upL (N:=N) (s:=s) (Wv.eq_def N x0) (fun t=>t.1) x0.2.2.2.2.1.length (fun t=>sz x0≤4096∧t.2.1=s.2.1∧t.2.2.1=s.2.2.1∧t.2.2.2.1=s.2.2.2.1∧t.2.2.2.2.1=s.2.2.2.2.1∧t.2.2.2.2.2=x0.2.2.2.2.1.take t.1.toNat) (fun r:((Str×Int×Bool×(List Qq)×(List Qt)))=>r.1=s.2.1∧r.2.1=s.2.2.1∧r.2.2.1=s.2.2.2.1∧r.2.2.2.1=s.2.2.2.2.1∧r.2.2.2.2=x0.2.2.2.2.1) (step:=by
  intro s h h0 h1 h2 hw
  try simp only[sS,reduceCtorEq]at *
  repeat' (first | intro _ | apply And.intro)
  all_goals first | grind [Y2,Vu,Ze.deep] | exact lv)
@[reducible,instance] def Q7p{x0}{s}:=upL (N:=N) (s:=s) (Sx.eq_def N x0) (fun t=>t.1) x0.1.length (fun t=>sz x0.1≤1000000000000∧t.2.1=x0.1.take t.1.toNat∧t.2.2.1=s.2.2.1∧t.2.2.2=s.2.2.2) (fun r:(((List Qd)×(List Qp)×(List Qi)))=>r.1=x0.1∧r.2.1=s.2.2.1∧r.2.2=s.2.2.2) (step:=by
  intro s h h0 h1 h2 hw
  try simp only[sS,reduceCtorEq]at *
  repeat' (first | intro _ | apply And.intro)
  all_goals first | grind [Y2,Vu,Ze.deep] | exact lv)
@[reducible,instance] def Qom{x0}:=mkW (P2.eq_1 N x0) (sz x0≤1000000000000) (fun r=>r=x0)
@[reducible,instance] def Qm8{x0}{s}:=upL (N:=N) (s:=s) (Ww.eq_def N x0) (fun t=>t.1) x0.2.2.2.2.2.1.length (fun t=>sz x0≤4096∧t.2.1=s.2.1∧t.2.2.1=s.2.2.1∧t.2.2.2.1=s.2.2.2.1∧t.2.2.2.2.1=s.2.2.2.2.1∧t.2.2.2.2.2.1=s.2.2.2.2.2.1∧t.2.2.2.2.2.2=x0.2.2.2.2.2.1.take t.1.toNat) (fun r:((Str×Int×Bool×(List Qq)×(List Qt)×(List Je)))=>r.1=s.2.1∧r.2.1=s.2.2.1∧r.2.2.1=s.2.2.2.1∧r.2.2.2.1=s.2.2.2.2.1∧r.2.2.2.2.1=s.2.2.2.2.2.1∧r.2.2.2.2.2=x0.2.2.2.2.2.1) (step:=by
  intro s h h0 h1 h2 hw
  try simp only[sS,reduceCtorEq]at *
  repeat' (first | intro _ | apply And.intro)
  all_goals first | grind [Y2,Vu,Ze.deep] | exact lv)
@[reducible,instance] def Qm9{x0}{s}:=upL (N:=N) (s:=s) (Wx.eq_def N x0) (fun t=>t.1) x0.2.2.2.2.2.2.length (fun t=>sz x0≤4096∧Ze x0∧t.2.1=s.2.1∧t.2.2.1=s.2.2.1∧t.2.2.2.1=s.2.2.2.1∧t.2.2.2.2.1=s.2.2.2.2.1∧t.2.2.2.2.2.1=s.2.2.2.2.2.1∧t.2.2.2.2.2.2.1=s.2.2.2.2.2.2.1∧t.2.2.2.2.2.2.2=x0.2.2.2.2.2.2.take t.1.toNat) (fun r:((Str×Int×Bool×(List Qq)×(List Qt)×(List Je)×(List Qk)))=>r.1=s.2.1∧r.2.1=s.2.2.1∧r.2.2.1=s.2.2.2.1∧r.2.2.2.1=s.2.2.2.2.1∧r.2.2.2.2.1=s.2.2.2.2.2.1∧r.2.2.2.2.2.1=s.2.2.2.2.2.2.1∧r.2.2.2.2.2.2=x0.2.2.2.2.2.2) (step:=by
  intro s h h0 h1 h2 hw
  try simp only[sS,reduceCtorEq]at *
  repeat' (first | intro _ | apply And.intro)
  all_goals first | grind [Y2,Vu,Ze.deep] | exact lv)
@[reducible,instance] def Qsn{x0}:=mkW (Kb.eq_1 N x0) (sz x0≤4096∧Ze x0) (fun r=>r=x0)
@[reducible,instance] def Qo6{x0}{s}:=upL (N:=N) (s:=s) (He.eq_def N x0) (fun t=>t.1) x0.2.1.length (fun t=>sz x0≤4096∧Jk Ze x0.2.1∧t.2.1=s.2.1∧t.2.2.1=x0.2.1.take t.1.toNat∧t.2.2.2.1=s.2.2.2.1∧t.2.2.2.2=s.2.2.2.2) (fun r:(((List Qv)×(List Ql)×(List Kr)×(List Int)))=>r.1=s.2.1∧r.2.1=x0.2.1∧r.2.2.1=s.2.2.2.1∧r.2.2.2=s.2.2.2.2) (step:=by
  intro s h h0 h1 h2 hw
  try simp only[sS,reduceCtorEq]at *
  repeat' (first | intro _ | apply And.intro)
  all_goals first | grind [Y2,Vu,Jk.all] | exact lv)
@[reducible,instance] def Qo7{x0}{s}:=upL (N:=N) (s:=s) (Hh.eq_def N x0) (fun t=>t.1) x0.2.2.2.2.2.length (fun t=>sz x0≤4096∧t.2.1=s.2.1∧t.2.2.1=s.2.2.1∧t.2.2.2.1=s.2.2.2.1∧t.2.2.2.2.1=s.2.2.2.2.1∧t.2.2.2.2.2.1=s.2.2.2.2.2.1∧t.2.2.2.2.2.2=x0.2.2.2.2.2.take t.1.toNat) (fun r:(((List Qv)×(List Ql)×(List Qn)×(List Kr)×(List Int)×(List Yj)))=>r.1=s.2.1∧r.2.1=s.2.2.1∧r.2.2.1=s.2.2.2.1∧r.2.2.2.1=s.2.2.2.2.1∧r.2.2.2.2.1=s.2.2.2.2.2.1∧r.2.2.2.2.2=x0.2.2.2.2.2) (step:=by
  intro s h h0 h1 h2 hw
  try simp only[sS,reduceCtorEq]at *
  repeat' (first | intro _ | apply And.intro)
  all_goals first | grind [Y2,Vu,Ze.deep] | exact lv)
@[reducible,instance] def Qo8{x0 v52}{s}:=upL (N:=N) (s:=s) (Hf.eq_def N x0 v52) (fun t=>t.1) ((x0.2.2.1[v52.toNat]?.getD (([]:Str),0,0,([]:Str),false,([]:List J5))).2.2.2.2.2).length (fun t=>sz x0≤4096∧0≤v52∧v52<x0.2.2.1.length∧t.2.1=s.2.1∧t.2.2.1=s.2.2.1∧t.2.2.2.1=s.2.2.2.1∧t.2.2.2.2.1=s.2.2.2.2.1∧t.2.2.2.2.2.1=s.2.2.2.2.2.1∧t.2.2.2.2.2.2=(x0.2.2.1[v52.toNat]?.getD (([]:Str),0,0,([]:Str),false,([]:List J5))).2.2.2.2.2.take t.1.toNat) (fun r:((Str×Int×Int×Str×Bool×(List J5)))=>r.1=s.2.1∧r.2.1=s.2.2.1∧r.2.2.1=s.2.2.2.1∧r.2.2.2.1=s.2.2.2.2.1∧r.2.2.2.2.1=s.2.2.2.2.2.1∧r.2.2.2.2.2=(x0.2.2.1[v52.toNat]?.getD (([]:Str),0,0,([]:Str),false,([]:List J5))).2.2.2.2.2) (fun s h=>by have h1:=h.1; have h2:=h.2.1; have h3:=h.2.2.1; have h4:v52.toNat<x0.2.2.1.length:=(by omega); have h5:=Qsf (VA h4); rw[QU h4]; simp only[ZF]; have h6:=Xp (l:=x0.2.2.1[v52.toNat].2.2.2.2.2); simp only[sz1,mx1]at *; omega) (step:=by
  intro s h h0 h1 h2 hw
  try simp only[sS,reduceCtorEq]at *
  repeat' (first | intro _ | apply And.intro)
  all_goals first | grind [Y2,Vu,Ze.deep] | exact lv)
@[reducible,instance] def Qo9{x0}{s}:=upL (N:=N) (s:=s) (Hg.eq_def N x0) (fun t=>t.1) x0.2.2.1.length (fun t=>sz x0≤4096∧t.2.1=s.2.1∧t.2.2.1=s.2.2.1∧t.2.2.2.1=x0.2.2.1.take t.1.toNat∧t.2.2.2.2.1=s.2.2.2.2.1∧t.2.2.2.2.2=s.2.2.2.2.2) (fun r:(((List Qv)×(List Ql)×(List Qn)×(List Kr)×(List Int)))=>r.1=s.2.1∧r.2.1=s.2.2.1∧r.2.2.1=x0.2.2.1∧r.2.2.2.1=s.2.2.2.2.1∧r.2.2.2.2=s.2.2.2.2.2) (step:=by
  intro s h h0 h1 h2 hw
  try simp only[sS,reduceCtorEq]at *
  repeat' (first | intro _ | apply And.intro)
  all_goals first | grind [Y2,Vu,Ze.deep] | exact lv)
@[reducible,instance] def Rf{x0}:=mkW (Yz.eq_1 N x0) (sz x0≤4096∧Jk Ze x0.2.1) (fun r=>r=x0)
@[reducible,instance] def Qon{x0 x1}{s}:=upL (N:=N) (s:=s) (Gr.eq_def N x0 x1) (fun t=>t) x0.2.2.2.2.2.1.length (fun t=>x0.2.2.2.2.2.1.length=x1.2.2.2.2.2.1.length∧x0.2.2.2.2.2.1.length≤9223372036854775807) (fun r:((Unit)⊕(Bool))=>∀u,r=.inr u→x0≠x1)
@[reducible,instance] def Qsz{x0 x1}:=mkW (Kx.eq_1 N x0 x1) (sz x0≤9223372036854775807) (fun r=>x0=x1→r=true)
@[reducible,instance] def Qpa{x0 x1}{s}:=upL (N:=N) (s:=s) (Hi.eq_def N x0 x1) (fun t=>t) x0.1.length (fun t=>x0.1.length=x1.1.length∧x0.1.length≤9223372036854775807∧sz x0.1≤9223372036854775807) (fun r:((Unit)⊕(Bool))=>∀u,r=.inr u→x0≠x1)
@[reducible,instance] def Qpb{x0 x1}{s}:=upL (N:=N) (s:=s) (Hj.eq_def N x0 x1) (fun t=>t) x0.2.1.length (fun t=>x0.2.1.length=x1.2.1.length∧x0.2.1.length≤9223372036854775807) (fun r:((Unit)⊕(Bool))=>∀u,r=.inr u→x0≠x1)
@[reducible,instance] def Qpc{x0 x1}{s}:=upL (N:=N) (s:=s) (Hk.eq_def N x0 x1) (fun t=>t) x0.2.2.length (fun t=>x0.2.2.length=x1.2.2.length∧x0.2.2.length≤9223372036854775807) (fun r:((Unit)⊕(Bool))=>∀u,r=.inr u→x0≠x1)
@[reducible,instance] def Rg{x0 x1}:=mkW (Ur.eq_1 N x0 x1) (sz x0≤9223372036854775807) (fun r=>x0=x1→r=true)
@[reducible,instance] def Qy1{x0 x1}{s}:=upL (N:=N) (s:=s) (Dt.eq_def N x0 x1) (fun t=>t) x0.2.2.2.2.2.1.length (fun t=>x0.2.2.2.2.2.1.length=x1.2.2.2.2.2.1.length∧x0.2.2.2.2.2.1.length≤9223372036854775807) (fun r:((Unit)⊕(Bool))=>∀u,r=.inr u→x0≠x1)
@[reducible,instance] def Qy2{x0 x1}{s}:=upL (N:=N) (s:=s) (Du.eq_def N x0 x1) (fun t=>t) x0.2.2.2.2.2.2.1.length (fun t=>x0.2.2.2.2.2.2.1.length=x1.2.2.2.2.2.2.1.length∧x0.2.2.2.2.2.2.1.length≤9223372036854775807) (fun r:((Unit)⊕(Bool))=>∀u,r=.inr u→x0≠x1)
@[reducible,instance] def Qy3{x0 x1}{s}:=upL (N:=N) (s:=s) (Dv.eq_def N x0 x1) (fun t=>t) x0.2.2.2.2.2.2.2.2.2.2.1.length (fun t=>x0.2.2.2.2.2.2.2.2.2.2.1.length=x1.2.2.2.2.2.2.2.2.2.2.1.length∧x0.2.2.2.2.2.2.2.2.2.2.1.length≤9223372036854775807) (fun r:((Unit)⊕(Bool))=>∀u,r=.inr u→x0≠x1)
@[reducible,instance] def Q5d{x0 x1}:=mkW (At.eq_1 N x0 x1) (sz x0≤9223372036854775807) (fun r=>x0=x1→r=true)
@[reducible,instance] def Qpd{x0 x1}{s}:=upL (N:=N) (s:=s) (Hl.eq_def N x0 x1) (fun t=>t) x0.length (fun t=>x0.length=x1.length∧x0.length≤9223372036854775807∧sz x0≤9223372036854775807) (fun r:((Unit)⊕(Bool))=>∀u,r=.inr u→x0≠x1)
@[reducible,instance] def Rh{x0 x1}:=mkW (Us.eq_1 N x0 x1) (sz x0≤9223372036854775807) (fun r=>x0=x1→r=true)
@[reducible,instance] def Jlr{x0}:=mkW (Cu.eq_1 N x0) (True) (fun r=>r=(x0.2.2.2.2.2.2.1,x0.2.2.2.2.2.2.2.2.2.2.1,x0.2.2.2.2.2.2.2.2.2.2.2,x0.1))
@[reducible,instance] def Jdm{x0 x1}:=mkW (Gs.eq_1 N x0 x1) (True) (fun r=>True)
@[reducible,instance] def Q5e{cx dg cq je jf jg jh ji jj jk jl jm gk gm gn du dv dw dy dz dl g5 dx dq g6 g7 ce cd cg ci cj ck cm dj ge}:=mkW (Ak.eq_1 N cx dg cq je jf jg jh ji jj jk jl jm gk gm gn du dv dw dy dz dl g5 dx dq g6 g7 ce cd cg ci cj ck cm dj ge) (Wf cx) (fun r=>r.2.1=cx∧r.2.2.1=dg∧r.2.2.2.1=cq∧r.2.2.2.2.2.2.2.2.2.2.2.2.2.2.2.2.2.2.2.2.2.2.2.2.2.2.2.2.2.1=cg∧r.2.2.2.2.2.2.2.2.2.2.2.2.2.2.2.2.2.2.2.2.2.2.2.2.2.2.2.2.2.2.1=ci∧r.2.2.2.2.2.2.2.2.2.2.2.2.2.2.2.2.2.2.2.2.2.2.2.2.2.2.2.2.2.2.2.1=cj∧r.2.2.2.2.2.2.2.2.2.2.2.2.2.2.2.2.2.2.2.2.2.2.2.2.2.2.2.2.2.2.2.2.1=ck∧r.2.2.2.2.2.2.2.2.2.2.2.2.2.2.2.2.2.2.2.2.2.2.2.2.2.2.2.2.2.2.2.2.2.1=cm∧r.2.2.2.2.2.2.2.2.2.2.2.2.2.2.2.2.2.2.2.2.2.2.2.2.2.2.2.2.2.2.2.2.2.2.1=dj∧r.2.2.2.2.2.2.2.2.2.2.2.2.2.2.2.2.2.2.2.2.2.2.2.2.2.2.2.2.2.2.2.2.2.2.2=ge) (k:=by
  intro h
  have g0:=h.ev
  try simp only[sS,reduceCtorEq]at *
  repeat' (first | intro _ | apply And.intro)
  all_goals first | exact lv)
@[reducible,instance] def Jls{ct cp cw gw gx gy gz j9 ja jb jc jd gg gi gj cy cz d4 d5 d6 d7 d8 d9 da db de cd cg ci cj ck cm dj ge gt}:=mkW (Qgy.eq_1 N ct cp cw gw gx gy gz j9 ja jb jc jd gg gi gj cy cz d4 d5 d6 d7 d8 d9 da db de cd cg ci cj ck cm dj ge gt) (Wf ct) (fun r=>r.2.1=ct∧r.2.2.1=cp∧r.2.2.2.1=cw∧r.2.2.2.2.2.2.2.2.2.2.2.2.2.2.2.2.2.2.2.2.1=ci∧r.2.2.2.2.2.2.2.2.2.2.2.2.2.2.2.2.2.2.2.2.2.1=cj∧r.2.2.2.2.2.2.2.2.2.2.2.2.2.2.2.2.2.2.2.2.2.2.1=ck∧r.2.2.2.2.2.2.2.2.2.2.2.2.2.2.2.2.2.2.2.2.2.2.2.1=cm∧r.2.2.2.2.2.2.2.2.2.2.2.2.2.2.2.2.2.2.2.2.2.2.2.2.1=dj∧r.2.2.2.2.2.2.2.2.2.2.2.2.2.2.2.2.2.2.2.2.2.2.2.2.2.1=ge∧r.2.2.2.2.2.2.2.2.2.2.2.2.2.2.2.2.2.2.2.2.2.2.2.2.2.2=gt)
@[reducible,instance] def Jlt{ct cp cw gw gx gy gz j9 ja jb jc jd gg gi gj cy cz d4 d5 d6 d7 d8 d9 da db de cd cg ci cj ck cm dj ge gt jo}:=mkW (Qgz.eq_1 N ct cp cw gw gx gy gz j9 ja jb jc jd gg gi gj cy cz d4 d5 d6 d7 d8 d9 da db de cd cg ci cj ck cm dj ge gt jo) (Wf ct) (fun r=>r.1=ct∧r.2.1=cp∧r.2.2.1=cw∧r.2.2.2.2.2.2.2.2.2.2.2.2.2.2.2.2.2.2.2.2.2.2.2.2.2.2.2.2.2.1=ci∧r.2.2.2.2.2.2.2.2.2.2.2.2.2.2.2.2.2.2.2.2.2.2.2.2.2.2.2.2.2.2.1=cj∧r.2.2.2.2.2.2.2.2.2.2.2.2.2.2.2.2.2.2.2.2.2.2.2.2.2.2.2.2.2.2.2.1=ck∧r.2.2.2.2.2.2.2.2.2.2.2.2.2.2.2.2.2.2.2.2.2.2.2.2.2.2.2.2.2.2.2.2.1=cm∧r.2.2.2.2.2.2.2.2.2.2.2.2.2.2.2.2.2.2.2.2.2.2.2.2.2.2.2.2.2.2.2.2.2.1=dj∧r.2.2.2.2.2.2.2.2.2.2.2.2.2.2.2.2.2.2.2.2.2.2.2.2.2.2.2.2.2.2.2.2.2.2.1=ge∧r.2.2.2.2.2.2.2.2.2.2.2.2.2.2.2.2.2.2.2.2.2.2.2.2.2.2.2.2.2.2.2.2.2.2.2=gt)
@[reducible,instance] def Q7q{cx dg cq g8 g9 gk gm gn du dv dw dy dz dl g5 dx dq g6 g7 ce cd cg ci cj ck cm}:=mkW (Cj.eq_1 N cx dg cq g8 g9 gk gm gn du dv dw dy dz dl g5 dx dq g6 g7 ce cd cg ci cj ck cm) (Wf cx∧W5 cq∧sz ce≤4096∧Sh.sh ce∧sz cd≤4096∧Sh.sh cd∧sz cg≤4096∧sz ci≤4096∧Jk (fun d:Qk=>dpt d.2.1≤4096) ci) (fun r=>r.2.1=cx∧r.2.2.1=dg∧r.2.2.2.1=cq∧r.2.2.2.2.1=g8∧r.2.2.2.2.2.1=g9∧sz r.2.2.2.2.2.2.2.2.2.1≤4096∧Sh.sh r.2.2.2.2.2.2.2.2.2.1∧sz r.2.2.2.2.2.2.2.2.2.2.2.2.2.2.2.2.2.2.2.2.2.1≤4096∧Sh.sh r.2.2.2.2.2.2.2.2.2.2.2.2.2.2.2.2.2.2.2.2.2.1∧sz r.2.2.2.2.2.2.2.2.2.2.2.2.2.2.2.2.2.2.2.2.2.2.1≤4096∧sz r.2.2.2.2.2.2.2.2.2.2.2.2.2.2.2.2.2.2.2.2.2.2.2.1≤4096∧Jk (fun d:Qk=>dpt d.2.1≤4096) r.2.2.2.2.2.2.2.2.2.2.2.2.2.2.2.2.2.2.2.2.2.2.2.1∧r.2.2.2.2.2.2.2.2.2.2.2.2.2.2.2.2.2.2.2.2.2.2.2.2.1=cj∧r.2.2.2.2.2.2.2.2.2.2.2.2.2.2.2.2.2.2.2.2.2.2.2.2.2.1=ck∧r.2.2.2.2.2.2.2.2.2.2.2.2.2.2.2.2.2.2.2.2.2.2.2.2.2.2=cm) (k:=by
  intro h
  have g0:=h.1.tarL; have g1:=h.1.tarS; have g2:=h.1.tarO; have g3:=h.2.1.to_; have g4:=h.2.1.toS
  try simp only[sS,reduceCtorEq]at *
  repeat' (first | intro _ | apply And.intro)
  all_goals first | exact lv)
@[reducible,instance] def Jlu{ct cp cw dh di gg gi gj cy cz d4 d5 d6 d7 d8 d9 da db de cd cg ci cj ck cm dj}:=mkW (Qg1.eq_1 N ct cp cw dh di gg gi gj cy cz d4 d5 d6 d7 d8 d9 da db de cd cg ci cj ck cm dj) (Wf ct∧W5 cw∧sz cd≤4096∧Sh.sh cd∧sz cg≤4096∧Sh.sh cg∧sz ci≤4096∧sz cj≤4096∧Jk (fun d:Qk=>dpt d.2.1≤4096) cj) (fun r=>r.2.1=ct∧r.2.2.1=cp∧r.2.2.2.1=cw∧r.2.2.2.2.1=dh∧r.2.2.2.2.2.1=di∧sz r.2.2.2.2.2.2.2.2.2.1≤4096∧Sh.sh r.2.2.2.2.2.2.2.2.2.1∧sz r.2.2.2.2.2.2.2.2.2.2.2.2.2.2.2.2.2.2.2.2.2.1≤4096∧Sh.sh r.2.2.2.2.2.2.2.2.2.2.2.2.2.2.2.2.2.2.2.2.2.1∧sz r.2.2.2.2.2.2.2.2.2.2.2.2.2.2.2.2.2.2.2.2.2.2.1≤4096∧sz r.2.2.2.2.2.2.2.2.2.2.2.2.2.2.2.2.2.2.2.2.2.2.2.1≤4096∧Jk (fun d:Qk=>dpt d.2.1≤4096) r.2.2.2.2.2.2.2.2.2.2.2.2.2.2.2.2.2.2.2.2.2.2.2.1∧r.2.2.2.2.2.2.2.2.2.2.2.2.2.2.2.2.2.2.2.2.2.2.2.2.1=ck∧r.2.2.2.2.2.2.2.2.2.2.2.2.2.2.2.2.2.2.2.2.2.2.2.2.2.1=cm∧r.2.2.2.2.2.2.2.2.2.2.2.2.2.2.2.2.2.2.2.2.2.2.2.2.2.2=dj)
@[reducible,instance] def Jev{ct cp cw dh di gg gi gj cy cz d4 d5 d6 d7 d8 d9 da db de cd cg ci cj ck cm dj ge}:=mkW (Ph.eq_1 N ct cp cw dh di gg gi gj cy cz d4 d5 d6 d7 d8 d9 da db de cd cg ci cj ck cm dj ge) (Wf ct∧W5 cw∧sz cd≤4096∧Sh.sh cd∧sz cg≤4096∧Sh.sh cg∧sz ci≤4096∧sz cj≤4096∧Jk (fun d:Qk=>dpt d.2.1≤4096) cj) (fun r=>r.1=ct∧r.2.1=cp∧r.2.2.1=cw∧r.2.2.2.1=dh∧r.2.2.2.2.1=di∧sz r.2.2.2.2.2.2.2.2.1≤4096∧Sh.sh r.2.2.2.2.2.2.2.2.1∧sz r.2.2.2.2.2.2.2.2.2.2.2.2.2.2.2.2.2.2.2.2.2.1≤4096∧Sh.sh r.2.2.2.2.2.2.2.2.2.2.2.2.2.2.2.2.2.2.2.2.2.1∧sz r.2.2.2.2.2.2.2.2.2.2.2.2.2.2.2.2.2.2.2.2.2.2.1≤4096∧sz r.2.2.2.2.2.2.2.2.2.2.2.2.2.2.2.2.2.2.2.2.2.2.2.1≤4096∧Jk (fun d:Qk=>dpt d.2.1≤4096) r.2.2.2.2.2.2.2.2.2.2.2.2.2.2.2.2.2.2.2.2.2.2.2.1∧r.2.2.2.2.2.2.2.2.2.2.2.2.2.2.2.2.2.2.2.2.2.2.2.2.1=ck∧r.2.2.2.2.2.2.2.2.2.2.2.2.2.2.2.2.2.2.2.2.2.2.2.2.2.1=cm∧r.2.2.2.2.2.2.2.2.2.2.2.2.2.2.2.2.2.2.2.2.2.2.2.2.2.2=dj)
@[reducible,instance] def Jdn{cx dg cq g8 g9 gk gm gn gq du dv dw dy dz dl g5 dx dq g6 g7 ce cd cg ci cj ck}:=mkW (M5.eq_1 N cx dg cq g8 g9 gk gm gn gq du dv dw dy dz dl g5 dx dq g6 g7 ce cd cg ci cj ck) (Wf cx∧W5 cq∧dg.1.length≤900000000000∧sz dg.1≤1000000000000∧dg.2.1.length≤1000000000∧dg.2.2.length≤1000000000) (fun r=>r.1=cx∧r.2.1=cq∧r.2.2.1=g8∧r.2.2.2.1=g9∧r.2.2.2.2.1=gk∧r.2.2.2.2.2.1=gm∧r.2.2.2.2.2.2.1=gn∧r.2.2.2.2.2.2.2.1=gq∧r.2.2.2.2.2.2.2.2.2.2.2.2.2.2.2.2.2.2.2.2.2.2.1=ce∧r.2.2.2.2.2.2.2.2.2.2.2.2.2.2.2.2.2.2.2.2.2.2.2.1=cd∧r.2.2.2.2.2.2.2.2.2.2.2.2.2.2.2.2.2.2.2.2.2.2.2.2.1=cg∧r.2.2.2.2.2.2.2.2.2.2.2.2.2.2.2.2.2.2.2.1.length≤dg.1.length+7604273152∧sz r.2.2.2.2.2.2.2.2.2.2.2.2.2.2.2.2.2.2.2.1≤1000000000000∧r.2.2.2.2.2.2.2.2.2.2.2.2.2.2.2.2.2.2.2.2.1.length≤dg.2.1.length+1∧r.2.2.2.2.2.2.2.2.2.2.2.2.2.2.2.2.2.2.2.2.2.1=dg.2.2∧r.2.2.2.2.2.2.2.2.2.2.2.2.2.2.2.2.2.2.2.2.2.2.2.2.2.1.length≤1000000000000∧r.2.2.2.2.2.2.2.2.2.2.2.2.2.2.2.2.2.2.2.2.2.2.2.2.2.2.1=cj∧r.2.2.2.2.2.2.2.2.2.2.2.2.2.2.2.2.2.2.2.2.2.2.2.2.2.2.2=ck) (k:=by
  intro h
  have g0:=h.1.ev; have g1:=h.1.prodL; have g2:=h.1.prodS; have g3:=h.1.prodO; have g4:=h.2.1.start
  try simp only[sS,reduceCtorEq]at *
  repeat' (first | intro _ | apply And.intro)
  all_goals first | exact lv)
@[reducible,instance] def Jdo{cx cq g8 g9 gk gm gn gq du dv dw dy dz dl g5 dx dq g6 g7 ce cd cg ci cj ck cm dj ge}:=mkW (Na.eq_1 N cx cq g8 g9 gk gm gn gq du dv dw dy dz dl g5 dx dq g6 g7 ce cd cg ci cj ck cm dj ge) (Wf cx∧W5 cq∧sz gq≤4096∧Sh.sh gq∧sz ci≤4096∧Sh.sh ci∧sz cj≤4096∧sz ck≤4096∧Jk (fun d:Qk=>dpt d.2.1≤4096) ck∧dj.length≤17301537) (fun r=>r.2.1=cx∧r.2.2.1=cq∧r.2.2.2.1=g8∧r.2.2.2.2.1=g9∧r.2.2.2.2.2.1=(gk,gm,gn,gq,ci,cj,ck)∧r.2.2.2.2.2.2.2.2.2.2.2.2.2.2.2.2.2.1=ce∧r.2.2.2.2.2.2.2.2.2.2.2.2.2.2.2.2.2.2.1=cd∧r.2.2.2.2.2.2.2.2.2.2.2.2.2.2.2.2.2.2.2.1=cg∧r.2.2.2.2.2.2.2.2.2.2.2.2.2.2.2.2.2.2.2.2.1=cm∧r.2.2.2.2.2.2.2.2.2.2.2.2.2.2.2.2.2.2.2.2.2.1.length≤17301537∧r.2.2.2.2.2.2.2.2.2.2.2.2.2.2.2.2.2.2.2.2.2.2=ge) (k:=by
  intro h
  have g0:=h.1.hol; have g1:=h.2.1.to_; have g2:=h.2.1.toS
  try simp only[sS,reduceCtorEq]at *
  repeat' (first | intro _ | apply And.intro)
  all_goals first | exact lv)
@[reducible,instance] def Jlv{ct cp cw dh di gg gi gj gr cy cz d4 d5 d6 d7 d8 d9 da db de cd cg ci cj ck cm}:=mkW (Qg4.eq_1 N ct cp cw dh di gg gi gj gr cy cz d4 d5 d6 d7 d8 d9 da db de cd cg ci cj ck cm) (Wf ct∧W5 cw∧cp.1.length≤900000000000∧sz cp.1≤1000000000000∧cp.2.1.length≤1000000000∧cp.2.2.length≤1000000000∧sz gr≤4096∧Sh.sh gr∧sz cd≤4096∧Sh.sh cd∧sz cg≤4096∧sz ci≤4096∧Jk (fun d:Qk=>dpt d.2.1≤4096) ci∧cj.length≤1000000000000∧ck.length≤17301537) (fun r=>r.2.1=ct∧r.2.2.1=cw∧r.2.2.2.1=dh∧r.2.2.2.2.1=di∧r.2.2.2.2.2.1=(gg,gi,gj,gr,cd,cg,ci)∧r.2.2.2.2.2.2.2.2.2.2.2.2.2.2.2.2.2.1.length≤cp.1.length+7604273152∧sz r.2.2.2.2.2.2.2.2.2.2.2.2.2.2.2.2.2.1≤1000000000000∧r.2.2.2.2.2.2.2.2.2.2.2.2.2.2.2.2.2.2.1.length≤cp.2.1.length+1∧r.2.2.2.2.2.2.2.2.2.2.2.2.2.2.2.2.2.2.2.1=cp.2.2∧r.2.2.2.2.2.2.2.2.2.2.2.2.2.2.2.2.2.2.2.2.1.length≤1000000000000∧r.2.2.2.2.2.2.2.2.2.2.2.2.2.2.2.2.2.2.2.2.2.1.length≤17301537∧r.2.2.2.2.2.2.2.2.2.2.2.2.2.2.2.2.2.2.2.2.2.2=cm)
@[reducible,instance] def Jew{ct cp cw dh di gg gi gj gr cy cz d4 d5 d6 d7 d8 d9 da db de cd cg ci cj ck cm dj}:=mkW (Pv.eq_1 N ct cp cw dh di gg gi gj gr cy cz d4 d5 d6 d7 d8 d9 da db de cd cg ci cj ck cm dj) (Wf ct∧W5 cw∧cp.1.length≤900000000000∧sz cp.1≤1000000000000∧cp.2.1.length≤1000000000∧cp.2.2.length≤1000000000∧sz gr≤4096∧Sh.sh gr∧sz cd≤4096∧Sh.sh cd∧sz cg≤4096∧sz ci≤4096∧Jk (fun d:Qk=>dpt d.2.1≤4096) ci∧cj.length≤1000000000000∧ck.length≤17301537) (fun r=>r.1=ct∧r.2.2.2.2.1=cw∧r.2.2.2.2.2.1=dh∧r.2.2.2.2.2.2.1=di∧sz r.2.2.2.2.2.2.2.2.2.2.1≤4096∧Sh.sh r.2.2.2.2.2.2.2.2.2.2.1∧sz r.2.2.2.2.2.2.2.2.2.2.2.1≤4096∧Sh.sh r.2.2.2.2.2.2.2.2.2.2.2.1∧sz r.2.2.2.2.2.2.2.2.2.2.2.2.1≤4096∧sz r.2.2.2.2.2.2.2.2.2.2.2.2.2.1≤4096∧Jk (fun d:Qk=>dpt d.2.1≤4096) r.2.2.2.2.2.2.2.2.2.2.2.2.2.1∧r.2.1.length≤cp.1.length+7604273152∧sz r.2.1≤1000000000000∧r.2.2.1.length≤cp.2.1.length+1∧r.2.2.2.1=cp.2.2∧r.2.2.2.2.2.2.2.2.2.2.2.2.2.2.2.2.2.2.2.2.2.2.2.2.2.2.1.length≤1000000000000∧r.2.2.2.2.2.2.2.2.2.2.2.2.2.2.2.2.2.2.2.2.2.2.2.2.2.2.2.1.length≤17301537∧r.2.2.2.2.2.2.2.2.2.2.2.2.2.2.2.2.2.2.2.2.2.2.2.2.2.2.2.2=cm)
@[reducible,instance] def Q7r{x0}:=mkW (Kw.eq_1 N x0) (True) (fun r=>((x0=1∨x0=2∨x0=3)∧r=0)∨(x0=4∧r=1)∨(4<x0∧x0<16∧r=2)∨r = -1)
def atr(x:Str):Int:=(Yc 0 x).getD 0
theorem Jje{N:Nat}(x:Str):Yc N x=some (atr x):=by
 have h:∃r,Yc 0 x=some r:=by
  obtain⟨r,e,_⟩:=(mkW (Yc.eq_1 0 x) True (fun r=>True)).spec (fun _=>True) ⟨trivial,fun _ _=>trivial⟩
  exact⟨r,e⟩
 obtain⟨r,e⟩:=h
 unfold atr
 rw[e,ZF,←e,Yc.eq_1,Yc.eq_1]
@[reducible,instance] def Q5f{x0:Str}:WP (Yc N x0) (fun R=>True∧∀r:Int,r=atr x0→R r):=D5 fun _=>⟨_,Jje x0,rfl⟩
@[reducible,instance] def Q7s{x0 x1}:=mkW (Cs.eq_1 N x0 x1) (x1.length=2) (fun r=>r.2=0→∃k0 k1,x1[0]?=some k0∧x1[1]?=some k1∧((x0=4∧k0=3∧r.1=3)∨((x0=5∨x0=6)∧k0=3∧k1=3∧r.1=3)∨((x0=7∨x0=8)∧k0=k1∧k0≠3∧r.1=3)∨((x0=9∨x0=10)∧k0=1∧k1=1∧r.1=3)∨(¬ (4≤x0∧x0≤10)∧k0=1∧k1=1∧r.1=1)))
def V0:Nat→Qj→Int→Prop
 | 0,_,_=>False
 | n+1,e,k =>
  (e.x.1=1∧e.ks.length=0∧k=1)∨(e.x.1=2∧e.ks.length=0∧List.length e.x.2.2≤200∧k=2)∨(e.x.1=3∧e.ks.length=0∧k=atr e.x.2.2∧k≠0) ∨
  (4≤e.x.1∧e.x.1<16∧∃k0 k1,(∀a,e.ks[0]?=some a→V0 n a k0)∧(∀a,e.ks[1]?=some a→V0 n a k1) ∧
   ((e.x.1=4∧e.ks.length=1∧k0=3∧k=3)∨(e.ks.length=2∧(((e.x.1=5∨e.x.1=6)∧k0=3∧k1=3∧k=3)∨((e.x.1=7∨e.x.1=8)∧k0=k1∧k0≠3∧k=3)∨((e.x.1=9∨e.x.1=10)∧k0=1∧k1=1∧k=3)∨(10<e.x.1∧k0=1∧k1=1∧k=1)))))
structure Qek(n:Nat)(ks:List Qj)(l:List Int)(i:Int):Prop where
 at_:∀j:Nat,(j:Int)<i→∀a k,ks[j]?=some a→l[j]?=some k→V0 n a k
theorem Jjf{n:Nat}{e:Qj}{l:List Int}{r:Int}(h1:(e.x.1=4∧e.ks.length=1)∨(4<e.x.1∧e.x.1<16∧e.ks.length=2))(hk:Qek n e.ks l e.ks.length)
  (hc:∃k0 k1,l[0]?=some k0∧l[1]?=some k1∧((e.x.1=4∧k0=3∧r=3)∨((e.x.1=5∨e.x.1=6)∧k0=3∧k1=3∧r=3)∨((e.x.1=7∨e.x.1=8)∧k0=k1∧k0≠3∧r=3)∨((e.x.1=9∨e.x.1=10)∧k0=1∧k1=1∧r=3)∨((4≤e.x.1→¬ e.x.1≤10)∧k0=1∧k1=1∧r=1))):V0 (n+1) e r:=by
 obtain⟨k0,k1,e0,e1,h⟩:=hc
 rw[V0]
 refine .inr (.inr (.inr ⟨by clear hk h; omega,by clear hk h; omega,k0,k1,fun a ha=>hk.at_ 0 (by clear h; omega) a k0 ha e0,fun a ha=>hk.at_ 1 ?_ a k1 ha e1,?_⟩))
 ·have:=(QK.1 ha).1
  omega
 ·rcases h with h | h | h | h | h
  ·exact .inl ⟨h.1,by omega,h.2.1,h.2.2⟩
  ·exact .inr ⟨by omega,.inl h⟩
  ·exact .inr ⟨by omega,.inr (.inl h)⟩
  ·exact .inr ⟨by omega,.inr (.inr (.inl h))⟩
  ·exact .inr ⟨by omega,.inr (.inr (.inr ⟨by omega,h.2.1,h.2.2.1,h.2.2.2⟩))⟩
theorem Jdp{n:Nat}{ks:List Qj}{l:List Int}:Qek n ks l 0:=⟨fun j h=>by omega⟩
theorem Jdq{n:Nat}{ks:List Qj}{l:List Int}{i k:Int}{x:Qj}(h:Qek n ks l i)(h0:0≤i)(hx:ks[i.toNat]?=some x)(t:V0 n x k):Qek n ks (l.set i.toNat k) (i+1):=⟨fun j hj a k' ha hk=>by
 by_cases e:j=i.toNat
 ·subst e
  rw[hx]at ha
  rw[List.getElem?_set_self']at hk
  cases hl:l[i.toNat]? with
  | none=>rw[hl]at hk; cases hk
  | some y =>
   rw[hl]at hk
   simp only[Option.map_eq_map,XG,Function.const_apply,Option.some.injEq]at hk ha
   rw[←hk,←ha]; exact t
 ·rw[List.getElem?_set_ne (by omega)]at hk
  exact h.at_ j (by omega) a k' ha hk⟩
theorem Jjg{n:Nat}{ks:List Qj}{l:List Int}{i j:Int}(h:Qek n ks l i)(hle:j≤i):Qek n ks l j:=⟨fun m hm=>h.at_ m (by omega)⟩
theorem Tj{N:Nat}[X4 N]:∀(n:Nat) (e:Qj) (d:Int),1≤d→d≤17→18≤n+d→sz e≤4096→W (V7 N n e d) fun r=>r.2=0→V0 n e r.1
 | 0,e,d,h0,h1,h2,h3=>by omega
 | n+1,e,d,h0,h1,h2,h3=>by
  unfold V7
  by_cases hd:d>16
  ·rw[if_pos (by simpa using hd)]
   exact⟨_,rfl,fun h=>absurd h (by decide)⟩
  ·rw[if_neg (by simpa using hd)]
   have hw:IntKind.wrap .i64 (d+1)=d+1:=Q2 (by omega) (by omega)
   have ih:∀x:Qj,WP (V7 N n x (IntKind.wrap .i64 (d+1))) (fun R=>sz x≤4096∧∀r:Int×Int,(r.2=0→V0 n x r.1)→R r):=fun x=>D5 fun h=>by rw[hw]; exact Tj n x (d+1) (by omega) (by omega) (by omega) h
   have hk:=Qhs (e:=e)
   have hlen:=Xp (l:=e.ks)
   have loop:=fun s:Int×List Int=>upL (N:=N) (s:=s) (Qbt.eq_def N (V7 N n) e d) (fun s=>s.1) e.ks.length (fun s=>sz e.ks≤4096∧e.ks.length≤2∧s.2.length=2∧Qek n e.ks s.2 s.1) (fun r:List Int⊕(Int×Int)=>(∀a,r=.inl a→a.length=2∧Qek n e.ks a e.ks.length)∧∀a,r=.inr a→a.2≠0) (step:=by
    intro s h h0 h1 h2 hw
    try simp only[sS,reduceCtorEq]at *
    repeat' (first | intro _ | apply And.intro)
    all_goals first | assumption | omega | (rw[hw (by assumption)]; exact Jdq h.2.2.2 h0 (by assumption) (by grind)) | exact Jjg h.2.2.2 (by omega) | grind)
   refine wp ?_
   try simp only[sS,reduceCtorEq]at *
   repeat' (first | intro _ | apply And.intro)
   all_goals first | assumption | omega | exact Jdp | exact KH | (rename_i h5 _ h6 h7; exact Jjf (by clear h6 h7 h5; omega) h5.2 (h6 h7)) | (rw[V0]; exact .inl ⟨by assumption,by omega,rfl⟩) | (rw[V0]; exact .inr (.inl ⟨by assumption,by omega,by omega,rfl⟩)) | (rw[V0]; exact .inr (.inr (.inl ⟨by assumption,by omega,rfl,by assumption⟩)))
@[reducible,instance] def Jjh{N:Nat}[hN:X4 N]{x0:Qj}{x1:Int}:WP (Qav N x0 x1) (fun R=>(sz x0≤4096∧x1=1)∧∀r:Int×Int,(r.2=0→V0 N x0 r.1)→R r):=D5 (by
  intro h
  have:=hN.le
  rw[h.2]
  exact Tj N x0 1 (by omega) (by omega) (by omega) h.1)
@[reducible,instance] def Qso{x0}:=mkW (Ha.eq_1 N x0) (sz x0≤4096) (fun r=>r.2=0→V0 N x0 r.1)
@[reducible,instance] def Jox{x0 x1}:=mkW (Qe0.eq_1 N x0 x1) (True) (fun r=>True)
@[reducible,instance] def Jjy{x0}:=mkW (Fp.eq_1 N x0) (True) (fun r=>r.2=true → -4611686018427387904≤r.1∧r.1≤4611686018427387904)
@[reducible,instance] def Jdr{x0 x1}:=mkW (Nc.eq_1 N x0 x1) (True) (fun r=>True)
theorem Qoo{N:Nat}[X4 N]{self:Qj→V5→Option (Int×Bool)}{i:Int}{e:Qj}{v:V5}{P:Qj→Prop}{Q:Int×Bool→Prop}(ih:∀x,P x→W (self x v) Q)(h:∀a,e.ks[i.toNat]?=some a→P a)(h0:0≤i)(h1:i<e.ks.length):W (X8 N self i e v) Q:=by
 rw[X8.eq_1]
 have hl:i.toNat<e.ks.length:=by omega
 have he:idx e.ks i=some e.ks[i.toNat]:=by unfold idx; rw[if_pos h0,QU hl]
 obtain⟨r,er,hr⟩:=ih _ (h _ (QU hl))
 rw[he]
 show W ((self e.ks[i.toNat] v).bind _) _
 rw[er]
 exact⟨_,rfl,hr⟩
@[reducible,instance] def Jqd{x0:Int}{x1:Int}:WP (Qi1 N x0 x1) (fun R=>((-4611686018427387904≤x0∧x0≤4611686018427387904) ∧ -4611686018427387904≤x1∧x1≤4611686018427387904)∧∀r:Int×Bool,(r.2=true → -4611686018427387904≤r.1∧r.1≤4611686018427387904)→R r):=D5 (by
  rintro⟨h0,h1⟩
  unfold Qi1
  rcases Int.lt_trichotomy x1 0 with h | h | h
  ·rw[Q2 (n := -4611686018427387904 - x1) (by omega) (by omega)]
   refine wp ?_
   simp only[ss,JS,QQ,decide_eq_true_eq]
   refine⟨fun _ h=>absurd h (by decide),fun hc _=>?_⟩
   rw[Q2 (by omega) (by omega)]; omega
  ·subst h
   refine wp ?_
   refine⟨fun _ h=>absurd h (by decide),fun hc _=>?_⟩
   simp only[Int.add_zero]
   rw[Q2 (by omega) (by omega)]; exact h0
  ·rw[Q2 (n:=4611686018427387904 - x1) (by omega) (by omega)]
   refine wp ?_
   simp only[ss,JS,QQ,decide_eq_true_eq]
   refine⟨fun _ h=>absurd h (by decide),fun hc _=>?_⟩
   rw[Q2 (by omega) (by omega)]; omega)
theorem Jlw{a b:Int}(ha : -4611686018427387904≤a∧a≤4611686018427387904)(hb : -4611686018427387904≤b∧b≤4611686018427387904)(h0:b≠0)(hq:(if 0 - a>a then 0 - a else a)≤(4611686018427387904:Int).tdiv (if 0 - b>b then 0 - b else b)) : -4611686018427387904≤a*b∧a*b≤4611686018427387904:=by
 generalize hA:(if 0 - a>a then 0 - a else a)=A at hq
 generalize hB:(if 0 - b>b then 0 - b else b)=B at hq
 have h1:0≤A∧(A=a∨A = -a):=by split at hA<;>omega
 have h2:0<B∧(B=b∨B = -b):=by split at hB<;>omega
 rw[QT (by omega)]at hq
 have h3:A*B≤4611686018427387904:=by
  have:=KA hq (Int.le_of_lt h2.1)
  exact WU this (Int.ediv_mul_le _ (by omega))
 have h4:0≤A*B:=Int.mul_nonneg h1.1 (Int.le_of_lt h2.1)
 rcases h1.2 with e1 | e1<;>rcases h2.2 with e2 | e2<;>subst e1 e2<;>(try simp only[Int.neg_mul,Int.mul_neg,Int.neg_neg]at h3 h4)<;>omega
@[reducible,instance] def Jji{x0:Int}{x1:Int}:WP (Ll N x0 x1) (fun R=>((-4611686018427387904≤x0∧x0≤4611686018427387904) ∧ -4611686018427387904≤x1∧x1≤4611686018427387904)∧∀r:Int×Bool,(r.2=true → -4611686018427387904≤r.1∧r.1≤4611686018427387904)→R r):=D5 (by
  rintro⟨h0,h1⟩
  unfold Ll
  rw[Q2 (n:=0 - x0) (by omega) (by omega),Q2 (n:=0 - x1) (by omega) (by omega)]
  by_cases hz:((x0==0)||(x1==0))=true
  ·rw[if_pos hz]; exact⟨_,rfl,fun _=>by decide⟩
  ·rw[if_neg hz]
   have yb:x1≠0:=fun e=>hz (by rw[e]; simp)
   refine wp ?_
   have hB:(if 0 - x1>x1 then 0 - x1 else x1)≠0∧1≤(if 0 - x1>x1 then 0 - x1 else x1):=by split<;>omega
   refine⟨hB.1,?_⟩
   have hq:(4611686018427387904:Int).tdiv (if 0 - x1>x1 then 0 - x1 else x1)≤4611686018427387904∧0≤(4611686018427387904:Int).tdiv (if 0 - x1>x1 then 0 - x1 else x1):=by
    rw[QT (by omega)]
    exact⟨Int.ediv_le_self _ (by omega),Int.ediv_nonneg (by omega) (by omega)⟩
   rw[Q2 (n:=(4611686018427387904:Int).tdiv (if 0 - x1>x1 then 0 - x1 else x1)) (by omega) (by omega)]
   refine⟨fun _ h=>absurd h (by decide),fun hle _=>?_⟩
   have:=Jlw h0 h1 yb (Int.not_lt.1 fun qk=>hle (decide_eq_true qk))
   rw[Q2 (n:=x0*x1) (by omega) (by omega)]
   exact this)
theorem Jds(x:Str):atr x=0∨atr x=1∨atr x=2∨atr x=3:=by
 obtain⟨r,e,h⟩:=(mkW (Yc.eq_1 0 x) True (fun r=>r=0∨r=1∨r=2∨r=3)).spec (fun r=>r=0∨r=1∨r=2∨r=3) ⟨trivial,fun _ h=>h⟩
 unfold atr
 rw[e,ZF]; exact h
theorem Q7t{n:Nat}{e:Qj}{k:Int}(h:V0 n e k):k=1∨k=2∨k=3:=by
 cases n with
 | zero=>exact h.elim
 | succ n =>
  rw[V0]at h
  have:=Jds e.x.2.2
  rcases h with h | h | h | ⟨h1,h2,k0,k1,h3,h4,h5⟩
  ·omega
  ·omega
  ·obtain⟨h1,h2,h3,h4⟩:=h
   omega
  ·clear h3 h4; omega
structure Q7u(n:Nat)(e:Qj)(k:Int):Prop where
 all:∀(i:Nat) (a:Qj),e.ks[i]?=some a→i<2→V0 n a k
theorem Qpe{n:Nat}{e:Qj}{k:Int}(h0:∀a,e.ks[0]?=some a→V0 n a k)(h1:∀a,e.ks[1]?=some a→V0 n a k):Q7u n e k:=⟨fun i a ha hi=>by
 match i,hi with
 | 0,_=>exact h0 a ha
 | 1,_=>exact h1 a ha⟩
theorem Qwm{n:Nat}{e:Qj}(h:V0 (n+1) e 1):e.x.1=1∨e.x.1=3∨(10<e.x.1∧e.x.1<16∧e.ks.length=2∧Q7u n e 1):=by
 rw[V0]at h
 rcases h with h | h | h | ⟨h1,h2,k0,k1,h3,h4,h5⟩
 ·exact .inl h.1
 ·exact absurd h.2.2.2 (by decide)
 ·exact .inr (.inl h.1)
 ·refine .inr (.inr ?_)
  have h6:10<e.x.1∧e.ks.length=2∧k0=1∧k1=1:=by clear h3 h4; omega
  obtain⟨h7,h8,rfl,rfl⟩:=h6
  exact⟨h7,h2,h8,Qpe h3 h4⟩
theorem Q4b{n:Nat}{e:Qj}(h:V0 (n+1) e 3):e.x.1=3∨(e.x.1=4∧e.ks.length=1∧∀a,e.ks[0]?=some a→V0 n a 3)∨((e.x.1=5∨e.x.1=6)∧e.ks.length=2∧Q7u n e 3)∨(6<e.x.1∧e.ks.length=2∧∃k,(k=1∨k=2)∧Q7u n e k):=by
 rw[V0]at h
 rcases h with h | h | h | ⟨h1,h2,k0,k1,h3,h4,h5⟩
 ·exact absurd h.2.2 (by decide)
 ·exact absurd h.2.2.2 (by decide)
 ·exact .inl h.1
 ·rcases h5 with h5 | ⟨h5,h6 | h6 | h6 | h6⟩
  ·obtain⟨h6,h7,rfl,_⟩:=h5
   exact .inr (.inl ⟨h6,h7,h3⟩)
  ·obtain⟨h6,rfl,rfl,_⟩:=h6
   exact .inr (.inr (.inl ⟨h6,h5,Qpe h3 h4⟩))
  ·obtain⟨h6,rfl,h7,_⟩:=h6
   by_cases hk:k0=1∨k0=2
   ·exact .inr (.inr (.inr ⟨by omega,h5,k0,hk,Qpe h3 h4⟩))
   ·have hl:(0:Nat)<e.ks.length:=by omega
    have:=Q7t (h3 _ (QU hl))
    omega
  ·obtain⟨h6,rfl,rfl,_⟩:=h6
   exact .inr (.inr (.inr ⟨by omega,h5,1,.inl rfl,Qpe h3 h4⟩))
  ·exact absurd h6.2.2.2 (by decide)
theorem Qb2{N:Nat}[X4 N]:∀(n m:Nat) (e:Qj) (v:V5),m≤n→V0 m e 1→W (Ut N n e v) fun r=>r.2=true → -4611686018427387904≤r.1∧r.1≤4611686018427387904
 | n,0,e,v,hm,h=>h.elim
 | 0,m+1,e,v,hm,h=>by omega
 | n+1,m+1,e,v,hm,h=>by
  unfold Ut
  have ih:∀i,WP (X8 N (Ut N n) i e v) (fun R=>(0≤i∧i≤1∧i<e.ks.length∧Q7u m e 1)∧∀r:Int×Bool,(r.2=true → -4611686018427387904≤r.1∧r.1≤4611686018427387904)→R r):=fun i=>D5 fun hi=>Qoo (P:=fun x=>V0 m x 1) (fun x hx=>Qb2 n m x v (by omega) hx) (fun a ha=>hi.2.2.2.all i.toNat a ha (by omega)) hi.1 hi.2.2.1
  have hd:∀a b:Int,(-4611686018427387904≤a∧a≤4611686018427387904)→b≠0→IntKind.wrap .i64 (a.tdiv b)=a.tdiv b:=fun a b ha hb=>by
   have h1:=Int.natAbs_tdiv_le_natAbs a b
   exact Q2 (by omega) (by omega)
  have hn:¬ e.x.1=1→¬ e.x.1=3→10<e.x.1∧e.x.1<16∧e.ks.length=2:=fun a b=>(Qwm h).elim (fun c=>absurd c a) fun c=>c.elim (fun c=>absurd c b) fun c=>⟨c.1,c.2.1,c.2.2.1⟩
  have wc:∀r:Int×Bool,(r.2=true → -4611686018427387904≤r.1∧r.1≤4611686018427387904)→¬ r.2=false → -4611686018427387904≤IntKind.wrap .i64 (0 - r.1)∧IntKind.wrap .i64 (0 - r.1)≤4611686018427387904:=fun r h1 h2=>by
   have:=h1 (by simpa using h2)
   rw[Q2 (by omega) (by omega)]; omega
  have hk:¬ e.x.1=1→¬ e.x.1=3→Q7u m e 1:=fun a b=>(Qwm h).elim (fun c=>absurd c a) fun c=>c.elim (fun c=>absurd c b) fun c=>c.2.2.2
  clear h
  refine wp ?_
  try simp only[sS,reduceCtorEq]at *
  repeat' (first | intro _ | apply And.intro)
  all_goals first | assumption | omega | exact hk (by assumption) (by assumption) | (have q:=wc _ (by assumption) (And.right (by assumption)); first | exact q.1 | exact q.2) | grind
structure Jrl(N:Nat)(e:Qj)(k:Int):Prop where
 out:∃m,m≤N∧V0 m e k
@[reducible,instance] def Jjz{x0:Qj}{x1:V5}:WP (Qde N x0 x1) (fun R=>Jrl N x0 1∧∀r:Int×Bool,True→R r):=D5 fun h=>let⟨m,hm,ht⟩:=h.out; (Qb2 N m x0 x1 hm ht).mono fun _ _=>trivial
theorem Jdt{N:Nat}[hN:X4 N]{e:Qj}{n:Nat}(h:V0 n e 2):Ha N e=some (2,0):=by
 obtain⟨M,rfl⟩:∃M,N=M+1:=⟨N - 1,by have:=hN.le; omega⟩
 cases n with
 | zero=>exact h.elim
 | succ n =>
  rw[V0]at h
  have h':(e.x.1=2∧e.ks.length=0∧e.x.2.2.length≤200)∨(e.x.1=3∧e.ks.length=0∧2=atr e.x.2.2):=by
   rcases h with h | h | h | ⟨h1,h2,k0,k1,h3,h4,h5⟩
   ·exact absurd h.2.2 (by decide)
   ·exact .inl ⟨h.1,h.2.1,h.2.2.1⟩
   ·exact .inr ⟨h.1,h.2.1,h.2.2.1⟩
   ·exfalso
    clear h3 h4; omega
  unfold Ha Qav V7
  rcases h' with⟨h1,h2,h3⟩ | ⟨h1,h2,h3⟩
  ·rw[h1,h2]
   have ru:¬ ((List.length e.x.2.2:Int)>200):=by omega
   simp only[Kw]
   simp[ru]
  ·rw[h1,h2]
   simp only[Kw,Jje,←h3]
   simp
structure Cmp(N:Nat)(e:Qj):Prop where
 two:e.ks.length=2
 kids:∃m k,m≤N∧(k=1∨k=2)∧Q7u m e k
@[reducible,instance] def Jjj{x0:Qj}{x1:V5}:WP (Lm N x0 x1) (fun R=>(Cmp N x0∧sz x0≤4096)∧∀r:Int×Bool,True→R r):=D5 fun h=>by
 obtain⟨⟨h2,m,k,hm,hk,hK⟩,hs⟩:=h
 have l0:(0:Nat)<x0.ks.length:=by omega
 have l1:(1:Nat)<x0.ks.length:=by omega
 have e0:idx x0.ks 0=some x0.ks[0]:=Qjo (i:=0) l0
 have e1:idx x0.ks 1=some x0.ks[1]:=Qjo (i:=1) l1
 have t0:=hK.all 0 _ (QU l0) (by omega)
 have t1:=hK.all 1 _ (QU l1) (by omega)
 have s0:sz x0.ks[0]≤4096:=QN (Qsf (VA l0)) (QN Qhs hs)
 unfold Lm
 rw[e0,QB]
 rcases hk with rfl | rfl
 ·obtain⟨r,er,_⟩:=(Qso (N:=N) (x0:=x0.ks[0])).spec (fun _=>True) ⟨s0,fun _ _=>trivial⟩
  rw[er,QB,e1]
  have hT:∀x:Qj,V0 m x 1→Jrl N x 1:=fun x hx=>⟨m,hm,hx⟩
  have q0:=hT _ t0
  have q1:=hT _ t1
  clear hK t0 t1 hT
  refine wp ?_
  try simp only[sS,reduceCtorEq]at *
  repeat' (first | intro _ | apply And.intro)
  all_goals first | assumption | trivial | grind
 ·rw[Jdt t0,QB,if_pos (by rfl),e1]
  clear hK t0 t1
  refine wp ?_
  try simp only[sS,reduceCtorEq]at *
  repeat' (first | intro _ | apply And.intro)
  all_goals first | assumption | trivial | grind
theorem Qsp{N:Nat}[X4 N]{self:Qj→V5→Option Bool}{i:Int}{e:Qj}{v:V5}{P:Qj→Prop}{Q:Bool→Prop}(ih:∀x,P x→W (self x v) Q)(h:∀a,e.ks[i.toNat]?=some a→P a)(h0:0≤i)(h1:i<e.ks.length):W (Uq N self i e v) Q:=by
 rw[Uq.eq_1]
 have hl:i.toNat<e.ks.length:=by omega
 have he:idx e.ks i=some e.ks[i.toNat]:=by unfold idx; rw[if_pos h0,QU hl]
 obtain⟨r,er,hr⟩:=ih _ (h _ (QU hl))
 rw[he]
 show W ((self e.ks[i.toNat] v).bind _) _
 rw[er]
 exact⟨_,rfl,hr⟩
theorem Qel{N:Nat}[X4 N]:∀(n m:Nat) (e:Qj) (v:V5),m≤n→m≤N→sz e≤4096→V0 m e 3→W (Yl N n e v) fun _=>True
 | n,0,e,v,hm,_,_,h=>h.elim
 | 0,m+1,e,v,hm,_,_,h=>by omega
 | n+1,m+1,e,v,hm,hN,hs,h=>by
  unfold Yl
  have jv:sz e.ks≤4096:=QN Qhs hs
  have ih:∀i,WP (Uq N (Yl N n) i e v) (fun R=>(0≤i∧i<e.ks.length∧∀a,e.ks[i.toNat]?=some a→V0 m a 3)∧∀r:Bool,True→R r):=fun i=>D5 fun hi=>Qsp (P:=fun x=>sz x≤4096∧V0 m x 3) (fun x hx=>Qel n m x v (by omega) (by omega) hx.1 hx.2) (fun a ha=>⟨QN (Qsf (JM ha)) jv,hi.2.2 a ha⟩) hi.1 hi.2.1
  have h3:=Q4b h
  clear h
  have q4:e.x.1=4→0<e.ks.length∧∀a,e.ks[(0:Int).toNat]?=some a→V0 m a 3:=fun e4=>by
   rcases h3 with h | h | h | h
   ·omega
   ·exact⟨by omega,h.2.2⟩
   ·obtain⟨h,_⟩:=h; omega
   ·obtain⟨h,_⟩:=h; omega
  have q5:e.x.1=5∨e.x.1=6→e.ks.length=2∧(∀a,e.ks[(0:Int).toNat]?=some a→V0 m a 3)∧∀a,e.ks[(1:Int).toNat]?=some a→V0 m a 3:=fun e4=>by
   rcases h3 with h | h | h | h
   ·omega
   ·obtain⟨h,_⟩:=h; omega
   ·exact⟨h.2.1,fun a ha=>h.2.2.all 0 a ha (by omega),fun a ha=>h.2.2.all 1 a ha (by omega)⟩
   ·obtain⟨h,_⟩:=h; omega
  have q7:¬ e.x.1=3→¬ e.x.1=4→¬ e.x.1=5→¬ e.x.1=6→Cmp N e:=fun a3 a4 a5 a6=>by
   rcases h3 with h | h | h | h
   ·omega
   ·obtain⟨h,_⟩:=h; omega
   ·obtain⟨h,_⟩:=h; omega
   ·obtain⟨_,h1,k,hk,hK⟩:=h
    exact⟨h1,m,k,by omega,hk,hK⟩
  clear h3
  refine wp ?_
  try simp only[sS,reduceCtorEq]at *
  repeat' (first | intro _ | apply And.intro)
  all_goals first | assumption | trivial | omega | exact q7 (by assumption) (by assumption) (by assumption) (by assumption) | exact(q4 (by assumption)).2 _ (by assumption) | exact(q5 (.inl (by assumption))).2.1 _ (by assumption) | exact(q5 (.inl (by assumption))).2.2 _ (by assumption) | exact(q5 (.inr (by assumption))).2.1 _ (by assumption) | exact(q5 (.inr (by assumption))).2.2 _ (by assumption) | (have:=(q4 (by assumption)).1; omega) | (have:=(q5 (.inl (by assumption))).1; omega) | (have:=(q5 (.inr (by assumption))).1; omega) | grind
@[reducible,instance] def Jex{x0:Qj}{x1:V5}:WP (Qf8 N x0 x1) (fun R=>(sz x0≤4096∧V0 N x0 3)∧∀r:Bool,True→R r):=D5 fun h=>Qel N N x0 x1 (QD _) (QD _) h.1 h.2
@[reducible,instance] def Jlx{x0 x1}:=mkW (Qg5.eq_1 N x0 x1) (sz x0≤4096) (fun r=>True)
@[reducible,instance] def Q7v{x0 ca}:=mkW (Ct.eq_1 N x0 ca) (sz x0.2.1≤4096) (fun r=>True)
@[reducible,instance] def Q5g{x0 x1}{s}:=upL (N:=N) (s:=s) (Oq.eq_def N x0 x1) (fun t=>t.2.1) x0.length (fun t=>sz x0≤4096∧x0.length≤4096∧t.2.2.length≤t.2.1) (fun r:((Int×(List Q3))⊕(Int×Int))=>∀a,r=.inl a→a.2.length≤4096)
@[reducible,instance] def Jdu{x0 x1 x2}:=mkW (Ng.eq_1 N x0 x1 x2) (sz x0≤4096) (fun r=>r.2.2.length≤4096)
@[reducible,instance] def Jdv{cx dg cq g8 g9 gp du dv dw dy dz dl g5 dx dq g6 g7 ce cd cg}:=mkW (Aq.eq_1 N cx dg cq g8 g9 gp du dv dw dy dz dl g5 dx dq g6 g7 ce cd cg) (True) (fun r=>True)
@[reducible,instance] def Q4c{cx dg cq g8 g9 gp du dv dw dy dz dl g5 dx dq g6 g7 ce cd cg}:=mkW (Fd.eq_1 N cx dg cq g8 g9 gp du dv dw dy dz dl g5 dx dq g6 g7 ce cd cg) (Wf cx∧dg.2.2.length≤1000000000∧cg.length≤4096∧sz gp.2.2.2.1≤4096∧Sh.sh gp.2.2.2.1∧sz gp.2.2.2.2.1≤4096∧Sh.sh gp.2.2.2.2.1∧sz gp.2.2.2.2.2.1≤4096∧sz gp.2.2.2.2.2.2≤4096∧Jk (fun d:Qk=>dpt d.2.1≤4096) gp.2.2.2.2.2.2) (fun r=>r.2.1=cx∧r.2.2.1=dg∧r.2.2.2.1=cq∧r.2.2.2.2.1=g8∧r.2.2.2.2.2.1=g9∧r.2.2.2.2.2.2.1=gp∧r.2.2.2.2.2.2.2.2.2.2.2.2.2.2.2.2.2.2.1=ce∧r.2.2.2.2.2.2.2.2.2.2.2.2.2.2.2.2.2.2.2.1=cd∧r.2.2.2.2.2.2.2.2.2.2.2.2.2.2.2.2.2.2.2.2.length≤4096) (k:=by
  intro h
  have g0:=h.1.hol
  try simp only[sS,reduceCtorEq]at *
  repeat' (first | intro _ | apply And.intro)
  all_goals first | exact lv)
@[reducible,instance] def Jly{ct cp cw dh di gc cy cz d4 d5 d6 d7 d8 d9 da db de cd cg ci}:=mkW (Qg6.eq_1 N ct cp cw dh di gc cy cz d4 d5 d6 d7 d8 d9 da db de cd cg ci) (Wf ct∧cp.2.2.length≤1000000000∧ci.length≤4096∧sz gc.2.2.2.1≤4096∧Sh.sh gc.2.2.2.1∧sz gc.2.2.2.2.1≤4096∧Sh.sh gc.2.2.2.2.1∧sz gc.2.2.2.2.2.1≤4096∧sz gc.2.2.2.2.2.2≤4096∧Jk (fun d:Qk=>dpt d.2.1≤4096) gc.2.2.2.2.2.2) (fun r=>r.2.1=ct∧r.2.2.1=cp∧r.2.2.2.1=cw∧r.2.2.2.2.1=dh∧r.2.2.2.2.2.1=di∧r.2.2.2.2.2.2.1=gc∧r.2.2.2.2.2.2.2.2.2.2.2.2.2.2.2.2.2.2.1=cd∧r.2.2.2.2.2.2.2.2.2.2.2.2.2.2.2.2.2.2.2.1=cg∧r.2.2.2.2.2.2.2.2.2.2.2.2.2.2.2.2.2.2.2.2.length≤4096)
@[reducible,instance] def Jey{ct cp cw dh di gc cy cz d4 d5 d6 d7 d8 d9 da db de cd cg ci cj}:=mkW (Px.eq_1 N ct cp cw dh di gc cy cz d4 d5 d6 d7 d8 d9 da db de cd cg ci cj) (Wf ct∧cp.2.2.length≤1000000000∧ci.length≤4096∧sz gc.2.2.2.1≤4096∧Sh.sh gc.2.2.2.1∧sz gc.2.2.2.2.1≤4096∧Sh.sh gc.2.2.2.2.1∧sz gc.2.2.2.2.2.1≤4096∧sz gc.2.2.2.2.2.2≤4096∧Jk (fun d:Qk=>dpt d.2.1≤4096) gc.2.2.2.2.2.2) (fun r=>r.1=ct∧r.2.1=cp∧r.2.2.1=cw∧r.2.2.2.1=dh∧r.2.2.2.2.1=di∧r.2.2.2.2.2.1=gc∧r.2.2.2.2.2.2.2.2.2.2.2.2.2.2.2.2.2.2.1=cd∧r.2.2.2.2.2.2.2.2.2.2.2.2.2.2.2.2.2.2.2.1=cg∧r.2.2.2.2.2.2.2.2.2.2.2.2.2.2.2.2.2.2.2.2.length≤4096)
@[reducible,instance] def Jez{x0}{s}:=upL (N:=N) (s:=s) (Qf3.eq_def N x0) (fun t=>t.1) x0.1.length (fun t=>sz x0.1≤1000000000000∧t.2.1=x0.1.take t.1.toNat∧t.2.2.1=s.2.2.1∧t.2.2.2=s.2.2.2) (fun r:(((List Qd)×(List Qp)×(List Qi)))=>r.1=x0.1∧r.2.1=s.2.2.1∧r.2.2=s.2.2.2) (step:=by
  intro s h h0 h1 h2 hw
  try simp only[sS,reduceCtorEq]at *
  repeat' (first | intro _ | apply And.intro)
  all_goals first | grind [Y2,Vu,Ze.deep] | exact lv)
@[reducible,instance] def Jlz{x0}:=mkW (Qaf.eq_1 N x0) (sz x0≤1000000000000) (fun r=>r=x0)
@[reducible,instance] def Jjk{cx dg cq g8 g9 gp du dv dw dy dz dl g5 dx dq g6 g7 ce cd cg}:=mkW (Qay.eq_1 N cx dg cq g8 g9 gp du dv dw dy dz dl g5 dx dq g6 g7 ce cd cg) (sz dg≤1000000000000) (fun r=>r.2.1=cx∧r.2.2.1=dg.1∧r.2.2.2.1.length=dg.2.1.length∧r.2.2.2.2.1.length≤dg.2.2.length+1∧r.2.2.2.2.2.2.2.2.2.2.2.2.2.2.2.2.2.2.2.2.1=ce∧r.2.2.2.2.2.2.2.2.2.2.2.2.2.2.2.2.2.2.2.2.2.1=cd∧r.2.2.2.2.2.2.2.2.2.2.2.2.2.2.2.2.2.2.2.2.2.2=cg)
@[reducible,instance] def Jl0{ct cp cw dh di gc cy cz d4 d5 d6 d7 d8 d9 da db de cd cg ci}:=mkW (Qg7.eq_1 N ct cp cw dh di gc cy cz d4 d5 d6 d7 d8 d9 da db de cd cg ci) (sz cp≤1000000000000) (fun r=>r.2.2.1.1=cp.1∧r.2.2.1.2.1.length=cp.2.1.length∧r.2.2.1.2.2.length≤cp.2.2.length+1∧r.2.2.2.2.2.2.2.2.2.2.2.2.2.2.2.2.2.2.1=cd∧r.2.2.2.2.2.2.2.2.2.2.2.2.2.2.2.2.2.2.2.1=cg∧r.2.2.2.2.2.2.2.2.2.2.2.2.2.2.2.2.2.2.2.2=ci)
@[reducible,instance] def Je0{ct cp cw dh di gc cy cz d4 d5 d6 d7 d8 d9 da db de cd cg ci cj}:=mkW (P1.eq_1 N ct cp cw dh di gc cy cz d4 d5 d6 d7 d8 d9 da db de cd cg ci cj) (sz cp≤1000000000000) (fun r=>r.2.1.1=cp.1∧r.2.1.2.1.length=cp.2.1.length∧r.2.1.2.2.length≤cp.2.2.length+1∧r.2.2.2.2.2.2.2.2.2.2.2.2.2.2.2.2.2.2.1=cd∧r.2.2.2.2.2.2.2.2.2.2.2.2.2.2.2.2.2.2.2.1=cg∧r.2.2.2.2.2.2.2.2.2.2.2.2.2.2.2.2.2.2.2.2=ci)
@[reducible,instance] def Q7w{x0 x1 x2}:=mkW (Ds.eq_1 N x0 x1 x2) (Wf x0∧W5 x2∧x1.1.length≤900000000000∧sz x1.1≤1000000000000∧x1.2.1.length≤1000000000∧x1.2.2.length≤1000000000) (fun r=>r.1.length≤x1.1.length+7604273152∧sz r.1≤1000000000000∧r.2.1.length≤x1.2.1.length+1∧r.2.2.1.length≤x1.2.2.length+1∧r.2.2.2.2.2.2.2.2.2.2.2.2.2.1.length≤1000000000000∧r.2.2.2.2.2.2.2.2.2.2.2.2.2.2.1.length≤17301537∧r.2.2.2.2.2.2.2.2.2.2.2.2.2.2.2.length≤4096) (k:=by
  intro h
  try simp only[sS,reduceCtorEq]at *
  repeat' (first | intro _ | apply And.intro)
  all_goals first | (simp only[*,sz1,sh1,mx1,JO,H8,JB,and_true]; done) | (simp only[*,sz1,sh1,mx1,JO]at *; omega) | exact lv)
structure Qju(l:List Qb)(i j:Int):Prop where
 at_:∀k:Nat,(k:Int)<j→∀a b,l[k]?=some a→l[i.toNat]?=some b→a.1≠b.1
theorem Q7x{l:List Qb}{i:Int}:Qju l i 0:=⟨fun k h=>by omega⟩
theorem Q7y{l:List Qb}{i j:Int}{x y:Qb}(h:Qju l i j)(h0:0≤j)(hx:l[j.toNat]?=some x)(hy:l[i.toNat]?=some y)(k8:¬ x.1=y.1):Qju l i (j+1):=⟨fun k hk a b ha hb=>by
 by_cases e:(k:Int)<j
 ·exact h.at_ k e a b ha hb
 ·have:k=j.toNat:=by omega
  subst this
  rw[hx]at ha; rw[hy]at hb
  rw[←Option.some.inj ha,←Option.some.inj hb]; exact k8⟩
theorem Jdw{l:List Qb}{i j m:Int}(h:Qju l i j)(hm:m≤j):Qju l i m:=⟨fun k hk=>h.at_ k (by omega)⟩
structure Qsq(l:List Qb)(j:Int):Prop where
 at_:∀i:Nat,(i:Int)<j→Qju l i i
theorem Q4d{l:List Qb}:Qsq l 0:=⟨fun k h=>by omega⟩
theorem Q4e{l:List Qb}{j:Int}(h:Qsq l j)(h0:0≤j)(k:Qju l j j):Qsq l (j+1):=⟨fun i hi=>by
 by_cases e:(i:Int)<j
 ·exact h.at_ i e
 ·have:j=i:=by omega
  rw[←this]; exact k⟩
theorem Q7z{l:List Qb}{j:Int}(h:Qsq l j)(hj:l.length≤j):Ids l:=⟨fun u hu v hv e=>by
 obtain⟨a,ha,ea⟩:=KR hu
 obtain⟨b,hb,eb⟩:=KR hv
 have ga:l[a]?=some u:=by rw[QU ha,ea]
 have gb:l[b]?=some v:=by rw[QU hb,eb]
 rcases Nat.lt_trichotomy a b with rh | rh | rh
 ·exact absurd e ((h.at_ b (by omega)).at_ a (by omega) u v ga (by simpa using gb))
 ·subst rh; rw[ga]at gb; exact Option.some.inj gb
 ·exact absurd e.symm ((h.at_ a (by omega)).at_ b (by omega) v u gb (by simpa using ga))⟩
@[reducible,instance] def Qy4{v4:Int}{x1:List Qb}{s:Int}:=upI (N:=N) (s:=s) (Dw.eq_def N v4 x1) (fun t=>t) v4 (fun t=>x1.length≤24∧0≤v4∧v4<x1.length∧Qju x1 v4 t) (fun r:Unit⊕Bool=>(∀u,r=.inl u→Qju x1 v4 v4)∧∀u,r=.inr u→u=false) (step:=by
  intro s h h0 hw
  try simp only[sS,reduceCtorEq]at *
  repeat' (first | intro _ | apply And.intro)
  all_goals first | assumption | omega | (rw[hw (by omega)]; exact Q7y h.2.2.2 h0 (by assumption) (by assumption) (by assumption)) | exact Jdw h.2.2.2 (by omega) | grind)
theorem Jqe{x0:Qz}{x2:Int}(e:x2=24)(hs:Sh.sh x0)(h:(sz x0:Int)≤4096∧(x0.1.length:Int)≤x2∧(x0.2.2.1.length:Int)≤x2∧Jk Ze x0.2.1∧Jk (fun p:Qn=>(p.2.2.2.2.2.length:Int)≤x2) x0.2.2.1):Wf x0:=by
 subst e
 obtain⟨h1,h2,h3,h4,h5⟩:=h
 have h6:=Xp (l:=x0.2.2.2.2.1)
 simp only[sz1,sh1,mx1]at h1 hs h6
 exact⟨by omega,by omega,hs.2.1,h4,by omega,by omega,Qe7 h5 fun p hp=>by omega,by omega⟩
theorem Jl1{x:Qb}(h:¬ 12622780800≤x.2.2.2.2.2.2.1)(k:x.2.2.2.2.2.2.1<86400000∨12622780800<x.2.2.2.2.2.2.1)(l:(List.length x.2.2.2.2.2.1:Int)≤200):W5 x:=⟨by omega,by omega,by show List.length x.2.2.2.2.2.1≤9223372036854775807; omega⟩
@[reducible,instance] def Qy5{x1:List Qb}{s:Int}:=upL (N:=N) (s:=s) (Dy.eq_def N x1) (fun t=>t) x1.length (fun t=>x1.length≤24∧Qjp W5 x1 t∧Qsq x1 t) (fun r:Unit⊕Bool=>(∀u,r=.inl u→Jk W5 x1∧Ids x1)∧∀u,r=.inr u→u=false) (step:=by
  intro s h h0 h1 h2 hw
  try simp only[sS,reduceCtorEq]at *
  repeat' (first | intro _ | apply And.intro)
  all_goals first | assumption | omega | exact Q7x | exact⟨Qe1 h.2.1 (by omega)⟩ | (rw[hw (by omega)]; exact Qba h0 h.2.1 (by assumption) (Jl1 (by grind) (by grind) (by grind))) | exact Q7z h.2.2 (by omega) | (rw[hw (by omega)]; exact Q4e h.2.2 h0 (by assumption)) | grind)
@[reducible,instance] def Qfr{x0 x1 x2}:=mkW (Wy.eq_1 N x0 x1 x2) (sz x0≤9223372036854775807∧Sh.sh x0∧x2=24) (fun r=>r=true→x1.length≤24∧(sz x0:Int)≤4096∧Wf x0∧Jk W5 x1∧Ids x1) (k:=by
  intro h
  have g0:=(fun q=>Jqe (x2:=x2) h.2.2 h.2.1 q)
  try simp only[sS,reduceCtorEq]at *
  repeat' (first | intro _ | apply And.intro)
  all_goals first | exact Q4d | exact g0 (by grind) | exact lv)
abbrev GS(t:Ty)(i:Sz t.De)(j:Sh t.De):Prop:=∀x:t.De,gd t x→@sz _ i x≤9223372036854775807∧@Sh.sh _ j x
theorem gsI{k:IntKind}:GS (.int k) (inferInstanceAs (Sz Int)) (inferInstanceAs (Sh Int)):=fun _ _=>⟨JB _,True.intro⟩
theorem gsB:GS .bool (inferInstanceAs (Sz Bool)) (inferInstanceAs (Sh Bool)):=fun _ _=>⟨JB _,True.intro⟩
theorem gsS:GS .str (inferInstanceAs (Sz (List UInt8))) (inferInstanceAs (Sh (List UInt8))):=fun x h=>⟨JB _,h⟩
theorem gsL{t:Ty}{i:Sz t.De}{j:Sh t.De}(h:GS t i j):GS (.sl t) (inferInstanceAs (Sz (List t.De))) (inferInstanceAs (Sh (List t.De))):=fun x g=>⟨Jif g.1 fun y hy=>(h y (g.2 y hy)).1,⟨fun y hy=>(h y (g.2 y hy)).2⟩⟩
theorem gsP{a b:Ty}{i:Sz a.De}{j:Sh a.De}{k:Sz b.De}{l:Sh b.De}(h:GS a i j)(h2:GS b k l):GS (.pr a b) (inferInstanceAs (Sz (a.De×b.De))) (inferInstanceAs (Sh (a.De×b.De))):=fun x g=>⟨VJ.2 ⟨(h x.1 g.1).1,(h2 x.2 g.2).1⟩,(h x.1 g.1).2,(h2 x.2 g.2).2⟩
theorem gsR{t:Ty}:GS (.rose t) (inferInstanceAs (Sz (Kk t.De))) (inferInstanceAs (Sh (Kk t.De))):=fun x g=>by
 refine⟨?_,True.intro⟩
 obtain⟨n,hn⟩:=g
 revert x
 induction n with
 | zero=>exact fun x h=>h.elim
 | succ n ih =>
  intro x h
  exact Jij (e:=x) h.2.1 fun y hy=>ih y (h.2.2 y hy)
theorem gsT{t:Ty}{i:Sz t.De}{j:Sh t.De}(h:GS t i j):GS (.st t) i j:=h
theorem Jl2:GS Kq (inferInstanceAs (Sz Qj)) (inferInstanceAs (Sh Qj)):=gsR
theorem Jl3:GS Kp (inferInstanceAs (Sz Kf)) (inferInstanceAs (Sh Kf)):=gsT (gsP gsI (gsP gsI gsI))
theorem Jas:GS G2 (inferInstanceAs (Sz Vt)) (inferInstanceAs (Sh Vt)):=gsT (gsP gsI (gsP gsI gsI))
theorem Jdx:GS Q9 (inferInstanceAs (Sz Qa)) (inferInstanceAs (Sh Qa)):=gsT (gsP gsI gsI)
theorem Jjl:GS Jw (inferInstanceAs (Sz Qv)) (inferInstanceAs (Sh Qv)):=gsT (gsP gsI (gsP gsI (gsP gsI (gsP gsI (gsP gsS (gsP gsS gsI))))))
theorem Jl4:GS V9 (inferInstanceAs (Sz Qq)) (inferInstanceAs (Sh Qq)):=gsT (gsP gsS (gsL gsS))
theorem Jl5:GS Vw (inferInstanceAs (Sz Qt)) (inferInstanceAs (Sh Qt)):=gsT (gsP gsS (gsL Jl3))
theorem Jl6:GS G3 (inferInstanceAs (Sz Je)) (inferInstanceAs (Sh Je)):=gsT (gsP gsI (gsP gsS (gsP gsS (gsP gsI (gsL Jas)))))
theorem Q4f:GS Vd (inferInstanceAs (Sz Qk)) (inferInstanceAs (Sh Qk)):=gsT (gsP gsS (gsP Jl2 gsI))
theorem Jdy:GS J7 (inferInstanceAs (Sz Ql)) (inferInstanceAs (Sh Ql)):=gsT (gsP gsS (gsP gsI (gsP gsB (gsP (gsL Jl4) (gsP (gsL Jl5) (gsP (gsL Jl6) (gsL Q4f)))))))
theorem Jdz:GS K8 (inferInstanceAs (Sz J5)) (inferInstanceAs (Sh J5)):=gsT (gsP gsI (gsP (gsL gsS) (gsP gsI (gsP gsI (gsP gsI gsB)))))
theorem Q70:GS Yp (inferInstanceAs (Sz Qn)) (inferInstanceAs (Sh Qn)):=gsT (gsP gsS (gsP gsI (gsP gsI (gsP gsS (gsP gsB (gsL Jdz))))))
theorem Jqf:GS Dc (inferInstanceAs (Sz Kr)) (inferInstanceAs (Sh Kr)):=gsT (gsP gsS (gsP gsI gsI))
theorem Qy6:GS V4 (inferInstanceAs (Sz Yj)) (inferInstanceAs (Sh Yj)):=gsT (gsP gsI (gsP gsI (gsP gsB (gsP Jdx (gsP (gsL Jas) gsI)))))
theorem Jl7:GS Vx (inferInstanceAs (Sz Qz)) (inferInstanceAs (Sh Qz)):=gsT (gsP (gsL Jjl) (gsP (gsL Jdy) (gsP (gsL Q70) (gsP (gsL Jqf) (gsP (gsL gsI) (gsL Qy6))))))
abbrev Jrm:Type:=(List Qd)×(List Qp)×(List Qi)×Qb×Int×Str×Int×Str×Int×Int×Int×Int×Int×(List Ja)×(List Qo)×(List Q3)
def Q4g(w:Jrm):Qw:=(w.1,w.2.1,w.2.2.1)
def Jd0(w:Jrm):Yg:=(w.2.2.2.1,w.2.2.2.2.1,w.2.2.2.2.2.1,w.2.2.2.2.2.2.1,w.2.2.2.2.2.2.2.1,w.2.2.2.2.2.2.2.2.2.2.2.2.2.1,w.2.2.2.2.2.2.2.2.2.2.2.2.2.2.1,w.2.2.2.2.2.2.2.2.1,w.2.2.2.2.2.2.2.2.2.1,w.2.2.2.2.2.2.2.2.2.2.1,w.2.2.2.2.2.2.2.2.2.2.2.2.2.2.2,w.2.2.2.2.2.2.2.2.2.2.2.1,w.2.2.2.2.2.2.2.2.2.2.2.2.1)
def Ri(N:Nat)(b:Qz):List Qb→Qw→Option (Qw×List Yg)
 | [],s=>some (s,[])
 | u::l,s=>(Ds N b s u).bind fun w=>(Ri N b l (Q4g w)).bind fun q=>some (q.1,Jd0 w::q.2)
theorem Qna{N:Nat}{b:Qz}:∀(l m:List Qb) (s:Qw),Ri N b (l++m) s=(Ri N b l s).bind fun p=>(Ri N b m p.1).bind fun q=>some (q.1,p.2++q.2)
 | [],m,s=>by
  simp only[QC,Ri,QB]
  cases Ri N b m s with
  | none=>rfl
  | some q=>rfl
 | u::l,m,s=>by
  simp only[QA,Ri]
  cases Ds N b s u with
  | none=>rfl
  | some w =>
   simp only[QB,Qna l m]
   cases Ri N b l (Q4g w)with
   | none=>rfl
   | some p =>
    simp only[QB]
    cases Ri N b m p.1 with
    | none=>rfl
    | some q=>rfl
theorem Qnb{N:Nat}{b:Qz}{r:List Qb}(hr:r.length≤1000):∀(k n i:Nat) (s:Qw) (o:List Yg),r.length=i+k→k<n→o.length≤i →
  Qf (Vl N r b) n ((i:Int),s.1,s.2.1,s.2.2,o)=(Ri N b (r.drop i) s).bind fun q=>some (q.1,o++q.2)
 | 0,0,i,s,o,hk,hn,ho=>by omega
 | 0,n+1,i,s,o,hk,hn,ho=>by
  have hi:i=r.length:=by omega
  subst hi
  rw[ZS]
  have e:Vl N r b ((r.length:Int),s.1,s.2.1,s.2.2,o)=some (.inr (s,o)):=by
   unfold Vl
   rw[if_neg (fun h=>by have:=of_decide_eq_true h; omega)]
  simp[Qf,e,Ri]
 | k+1,0,i,s,o,hk,hn,ho=>by omega
 | k+1,n+1,i,s,o,hk,hn,ho=>by
  have hlt:i<r.length:=by omega
  rw[XY hlt]
  have e:Vl N r b ((i:Int),s.1,s.2.1,s.2.2,o)=(Ds N b s r[i]).bind fun w=>some (.inl (((i+1:Nat):Int),(Q4g w).1,(Q4g w).2.1,(Q4g w).2.2,o++[Jd0 w])):=by
   unfold Vl
   rw[if_pos (decide_eq_true (by omega)),Qjo hlt,QB]
   show(Ds N b s r[i]).bind _=_
   refine congrArg _ (funext fun w=>?_)
   rw[Q2 (n:=(i:Int)+1) (by omega) (by omega)]
   show(app 272 o [Jd0 w]).bind _=_
   rw[K0 (by simp; omega)]; rfl
  simp only[Ri,Qf,e]
  cases hw:Ds N b s r[i]with
  | none=>rfl
  | some w =>
   simp only[QB]
   rw[Qnb hr k n (i+1) (Q4g w) (o++[Jd0 w]) (by omega) (by omega) (by simp; omega)]
   cases Ri N b (r.drop (i+1)) (Q4g w)with
   | none=>rfl
   | some q=>simp
structure Jjm(k:Nat)(s:Qw):Prop where
 buck:s.1.length≤k*7604273152
 size:sz s.1≤1000000000000
 wall:s.2.1.length≤k
 coun:s.2.2.length≤k
theorem Qy7{N:Nat}[X4 N]{b:Qz}(hb:Wf b):∀(l:List Qb) (k:Nat) (s:Qw),k+l.length≤48→(∀u∈l,W5 u)→Jjm k s →
  ∃q,Ri N b l s=some q∧Jjm (k+l.length) q.1∧q.2.length=l.length∧∀r∈q.2,sz r≤1000000000000
 | [],k,s,hk,hu,hs=>⟨(s,[]),rfl,hs,rfl,fun _ h=>absurd h XD⟩
 | u::l,k,s,hk,hu,hs=>by
  simp only[JI]at hk ⊢
  obtain⟨w,ew,h1,h2,h3,h4,h5,h6,h7⟩:=(Q7w (N:=N) (x0:=b) (x1:=s) (x2:=u)).spec _ ⟨⟨hb,hu u (.head _),by have:=hs.buck; omega,hs.size,by have:=hs.wall; omega,by have:=hs.coun; omega⟩,fun r h=>h⟩
  obtain⟨q,eq,g1,g2,g3⟩:=Qy7 (N:=N) hb l (k+1) (Q4g w) (by omega) (fun v hv=>hu v (.tail _ hv)) ⟨by have:=hs.buck; show w.1.length≤_; omega,h2,by have:=hs.wall; show w.2.1.length≤_; omega,by have:=hs.coun; show w.2.2.1.length≤_; omega⟩
  refine⟨(q.1,Jd0 w::q.2),by simp only[Ri,ew,QB,eq],?_,by simp[g2],fun r hr=>?_⟩
  ·have:k+(l.length+1)=k+1+l.length:=by omega
   rw[this]; exact g1
  ·rcases QX.1 hr with rfl | hr
   ·simp only[Jd0,sz1,mx1]
    omega
   ·exact g3 r hr
theorem Jd1:Jjm 0 (([]:List Qd),([]:List Qp),([]:List Qi)):=⟨by simp,by rw[Jih]; omega,by simp,by simp⟩
theorem Qwn{N:Nat}[hN:X4 N]{b:Qz}{s:Qw}{l:List Qb}(hs:sz s≤1000000000000)(hl:l.length≤1000){o:List Qb}(ho:C2 N l=some o)(hp:o.Perm l):Zc N b s l=Ri N b o s:=by
 obtain⟨c,ec,hc⟩:=(Qom (N:=N) (x0:=s)).spec (fun r=>r=s) ⟨hs,fun r h=>h⟩
 have il:=hp.length_eq
 have this:Qf (Vl N o b) N ((0:Int),s.1,s.2.1,s.2.2,[])=(Ri N b (o.drop 0) s).bind fun q=>some (q.1,[]++q.2):=Qnb (N:=N) (b:=b) (r:=o) (by omega) o.length N 0 s [] (by omega) (by have:=hN.le; omega) (by simp)
 rw[hc]at ec
 unfold Zc
 rw[ec,QB,ho,QB]
 rw[this,KY]
 cases Ri N b o s with
 | none=>rfl
 | some q=>simp
theorem Jjn{N:Nat}[hN:X4 N]{b:Qz}{l o:List Qb}(hl:l.length≤1000)(ho:C2 N l=some o)(hp:o.Perm l):Uu N b l=Ri N b o (([]:List Qd),([]:List Qp),([]:List Qi)):=by
 unfold Uu
 rw[Qwn (by decide) hl ho hp]
 cases Ri N b o (([]:List Qd),([]:List Qp),([]:List Qi))with
 | none=>rfl
 | some q=>rfl
theorem Jl8(M:Nat):Zd (M+64)=some true:=by kernel_rfl
theorem Jjo{N:Nat}[hN:X4 N]:Zd N=some true:=by
 have e:N=(N - 64)+64:=by have:=hN.le; omega
 rw[e]; exact Jl8 _
theorem Jd2{N:Nat}[X4 N]{s:Qw}(h:sz s≤9223372036854775807):Ur N s s=some true:=by
 obtain⟨r,e,hr⟩:=(Rg (N:=N) (x0:=s) (x1:=s)).spec (fun r=>r=true) ⟨h,fun r h=>h rfl⟩
 rw[e,hr]
theorem Jd3{N:Nat}[X4 N]{s:List Yg}(h:sz s≤9223372036854775807):Us N s s=some true:=by
 obtain⟨r,e,hr⟩:=(Rh (N:=N) (x0:=s) (x1:=s)).spec (fun r=>r=true) ⟨h,fun r h=>h rfl⟩
 rw[e,hr]
theorem Jd4{N:Nat}[X4 N]{b:Qz}(hs:sz b≤4096)(ht:Jk Ze b.2.1):Yz N b=some b:=by
 obtain⟨r,e,hr⟩:=(Rf (N:=N) (x0:=b)).spec (fun r=>r=b) ⟨⟨hs,ht⟩,fun r h=>h⟩
 rw[e,hr]
theorem Jjm.sz_le{k:Nat}{s:Qw}(h:Jjm k s)(hk:k≤48):sz s≤1000000000000:=by
 have h1:=h.size; have h2:=h.wall; have h3:=h.coun
 simp only[sz1,mx1]
 omega
theorem Jl9{N:Nat}[X4 N]{b:Qz}{l:List Qb}(gb:gd Vx b):∃r,Wy N b l 24=some r∧(r=true→l.length≤24∧sz b≤4096∧Wf b∧Jk W5 l∧Ids l):=by
 have h:=Jl7 b gb
 exact(Qfr (N:=N) (x0:=b) (x1:=l) (x2:=24)).spec _ ⟨⟨h.1,h.2,rfl⟩,fun r h hr=>by
  have h:=h hr
  exact⟨h.1,by omega,h.2.2.1,h.2.2.2.1,h.2.2.2.2⟩⟩
abbrev st0:Qw:=(([]:List Qd),([]:List Qp),([]:List Qi))
theorem big:X4 18446744073709551616:=⟨QD _⟩
def ear(t:Int)(u:Qb):Bool:=decide (u.2.2.2.2.2.2.1<t)
theorem Qhw{N:Nat}{l:List Qb}{t:Int}(hr:l.length≤1000):∀(k n i:Nat) (a b:List Qb),l.length=i+k→k<n→a.length≤i→b.length≤i →
  Qf (Q6 N l t) n ((i:Int),a,b)=some (a++(l.drop i).filter (ear t),b++(l.drop i).filter fun u=>!ear t u)
 | 0,0,i,a,b,hk,hn,ha,hb=>by omega
 | 0,n+1,i,a,b,hk,hn,ha,hb=>by
  have hi:i=l.length:=by omega
  subst hi
  rw[ZS]
  have e:Q6 N l t ((l.length:Int),a,b)=some (.inr (a,b)):=by
   unfold Q6
   rw[if_neg (fun h=>by have:=of_decide_eq_true h; omega)]
  simp[Qf,e]
 | k+1,0,i,a,b,hk,hn,ha,hb=>by omega
 | k+1,n+1,i,a,b,hk,hn,ha,hb=>by
  have hlt:i<l.length:=by omega
  rw[XY hlt]
  cases he:ear t l[i]with
  | true =>
   have hd:l[i].2.2.2.2.2.2.1<t:=of_decide_eq_true he
   have e:Q6 N l t ((i:Int),a,b)=some (.inl (((i+1:Nat):Int),a++[l[i]],b)):=by
    unfold Q6
    rw[if_pos (decide_eq_true (by omega)),Qjo hlt,QB,if_pos (decide_eq_true hd),QB,K0 (by simp; omega),Q2 (n:=(i:Int)+1) (by omega) (by omega)]
    rfl
   simp only[Qf,e,QB]
   rw[Qhw hr k n (i+1) _ _ (by omega) (by omega) (by simp; omega) (by omega)]
   simp only[XV,he,if_true,VG,XQ,if_false,QH,QA,QC]
  | false =>
   have hd:¬ l[i].2.2.2.2.2.2.1<t:=of_decide_eq_false he
   have e:Q6 N l t ((i:Int),a,b)=some (.inl (((i+1:Nat):Int),a,b++[l[i]])):=by
    unfold Q6
    rw[if_pos (decide_eq_true (by omega)),Qjo hlt,QB,if_neg (fun h=>hd (of_decide_eq_true h)),QB,K0 (by simp; omega),Q2 (n:=(i:Int)+1) (by omega) (by omega)]
    rfl
   simp only[Qf,e,QB]
   rw[Qhw hr k n (i+1) _ _ (by omega) (by omega) (by omega) (by simp; omega)]
   simp only[XV,he,if_true,Bool.not_false,XQ,if_false,QH,QA,QC]
theorem Jma{N:Nat}[hN:X4 N]{x0:Qz}{x1:List Qb}{x2:Int}(g0:gd Vx x0):Vn N x0 x1 x2=some true:=by
 obtain⟨r,er,hr⟩:=Jl9 (N:=N) (l:=x1) g0
 unfold Vn
 rw[er,QB]
 cases r with
 | false=>rw[if_pos (by decide),Jjo]; rfl
 | true =>
  rw[if_neg (by decide)]
  obtain⟨h1,h2,h3,h4,h5⟩:=hr rfl
  have me:Qf (Q6 N x1 x2) N ((0:Int),([]:List Qb),([]:List Qb))=some (x1.filter (ear x2),x1.filter fun u=>!ear x2 u):=Qhw (N:=N) (by omega) x1.length N 0 [] [] (by omega) (by have:=hN.le; omega) (by simp) (by simp)
  rw[me,QB,Jd4 h2 h3.tarO,QB]
  have le1:=ZJ (ear x2) x1
  have le2:=ZJ (fun u=>!ear x2 u) x1
  have xw:(x1.filter (ear x2)++x1.filter fun u=>!ear x2 u).Perm x1:=List.filter_append_perm _ _
  have hlen:=xw.length_eq
  rw[QI]at hlen
  obtain⟨o,eo,po,so⟩:=Qsj (N:=N) (l:=x1) (by omega)
  obtain⟨o1,eo1,po1,so1⟩:=Qsj (N:=N) (l:=x1.filter (ear x2)) (by omega)
  obtain⟨o2,eo2,po2,so2⟩:=Qsj (N:=N) (l:=x1.filter fun u=>!ear x2 u) (by omega)
  have heq:o1++o2=o:=Q3r h5 ((po1.append po2).trans xw) po (Qyu (t:=x2) (fun u hu=>of_decide_eq_true (JJ.1 (po1.mem_iff.1 hu)).2) (fun u hu=>by
   have:=(JJ.1 (po2.mem_iff.1 hu)).2
   unfold ear at this
   simpa using this) so1 so2) so
  have l1:=po1.length_eq
  have l2:=po2.length_eq
  have l0:=po.length_eq
  obtain⟨p,ep,p1,p2,p3⟩:=Qy7 (N:=N) h3 o1 0 st0 (by omega) (fun u hu=>h4.all u (JJ.1 (po1.mem_iff.1 hu)).1) Jd1
  rw[QE]at p1
  obtain⟨q,eq,q1,q2,q3⟩:=Qy7 (N:=N) h3 o2 o1.length p.1 (by omega) (fun u hu=>h4.all u (JJ.1 (po2.mem_iff.1 hu)).1) p1
  have zi:Ri N x0 o st0=some (q.1,p.2++q.2):=by rw[←heq,Qna,ep,QB,eq]; rfl
  have r1:Uu N x0 (x1.filter (ear x2))=some p:=by rw[Jjn (by omega) eo1 po1,ep]
  have r2:Zc N x0 p.1 (x1.filter fun u=>!ear x2 u)=some q:=by rw[Qwn (p1.sz_le (by omega)) (by omega) eo2 po2,eq]
  have r3:Uu N x0 x1=some (q.1,p.2++q.2):=by rw[Jjn (by omega) eo po,zi]
  have hs:=q1.sz_le (by omega)
  have hq:sz (p.2++q.2)≤9223372036854775807:=Jif (by rw[QI]; omega) fun r hr=>by
   rcases QW.1 hr with hr | hr
   ·exact QN (p3 r hr) (by omega)
   ·exact QN (q3 r hr) (by omega)
  show(Uu N x0 _).bind _=_
  rw[r1,QB,QB]
  show(Zc N x0 _ _).bind _=_
  rw[r2,QB,QB,K0 (by rw[JO]; omega),QB,QC]
  show(Uu N x0 _).bind _=_
  rw[r3,QB,Jd2 (by omega),QB,if_pos rfl,K0 (by rw[JO]; omega),QB,K0 (by rw[QC]; omega),QB,QC,Jd3 hq]
  simp only[QB,if_true,Jjo]
theorem Qjv(x0:Qz)(g0:gd Vx x0)(x1:List Qb)(g1:gd (.sl J2) x1)(x2:Int)(g2:gd (.int .i64) x2):∃N,Vn N x0 x1 x2=some true:=⟨18446744073709551616,have:=big; Jma g0⟩
end Gx
