/- Abstract states. -/
import Derived.Test.YtgnpojenbefoiaaGreatGAppend
import Derived.MapKept
namespace Gx
open Go Go.RowKit Gd
set_option linter.unusedVariables false
set_option linter.unusedSimpArgs false
inductive Ob where
 | var (tid:TypeId) (c:AV)
 | row (e:TypeId) (t:Ty) (xs:List t.De)
 | tail (e:TypeId) (t:Ty) (xs:List t.De)
 | map (k v:Ty) (xs:List (k.De×v.De))
 | mapT (k v:Ty) (path:List PS) (e:TypeId) (u:Ty) (xs:List (k.De×v.De)) (hole:Option (k.De×Nat))
 | mapO (k:Ty) (xs:List (k.De×Unit)) (last:Option (k.De×Nat))
 | mapE (k v:Ty) (xs:List (k.De×v.De)) (key:k.De) (j:Nat)
def slF:(fs:Ty)→Nat→Option (Σ t:Ty,(fs.De→t.De)×Nat)
 | .pr f _,0=>some ⟨f,fun x=>x.1,0⟩
 | .pr f r,k+1=>match slF r k with
  | some ⟨t,g,o⟩=>some ⟨t,fun x=>g x.2,f.size+o⟩
  | none=>none
 | .int k,0=>some ⟨.int k,fun x=>x,0⟩
 | .bool,0=>some ⟨.bool,fun x=>x,0⟩
 | .str,0=>some ⟨.str,fun x=>x,0⟩
 | .sl e,0=>some ⟨.sl e,fun x=>x,0⟩
 | .arr n e,0=>some ⟨.arr n e,fun x=>x,0⟩
 | .st fs,0=>some ⟨.st fs,fun x=>x,0⟩
 | _,_=>none
def M8:(v:Ty)→List PS→Option (Σ u:Ty,v.De→List u.De)
 | .sl u,[]=>some ⟨u,fun x=>x⟩
 | .st fs,.f k off::ps=>match slF fs k with
  | some ⟨t,g,o⟩=>bif Nat.beq o off then (match M8 t ps with
   | some ⟨u,f⟩=>some ⟨u,fun x=>f (g x)⟩
   | none=>none) else none
  | none=>none
 | _,_=>none
def Xf (β:Nat→Nat) (ρ:Nat→Value) (g:Nat) (tid:TypeId) (c:AV):TL where
 blks:=fun b=>b=g
 cov:=fun b _=>b=g
 cb:=fun h=>h
 p:=fun ok w=>∃cs,w.heap[g]?=some (.cells cs.toArray tid (0,0))∧cr β ρ ok w false c cs
 keep:=fun ⟨cs,h1,h2⟩ hb he=>⟨cs,by rw [hb _ rfl]; exact h1,X8 h2 he⟩
 weak:=fun ⟨cs,h1,h2⟩ hk=>⟨cs,h1,Vt h2 hk⟩
 lt:=fun ⟨_,h,_⟩ b hb=>by subst hb; exact Yl h
def Ui {τ:Type} (v:Value) (e:Nat) (r:RT τ) (xs:List τ):TL where
 blks:=fun g=>v.ownBlock=some g
 cov:=fun b o=>v.ownBlock=some b∧Uq v*r.size≤o
 cb:=fun h=>h.1
 p:=fun ok w=>isV (rSl r) ok w xs v∧∃ys,w.ownsRowS 0 e r.size v (Uq v) ys
 keep:=fun ⟨h1,ys,h⟩ hb he=>⟨h1.evo he,ys,G3 h hb⟩
 weak:=fun ⟨h1,h⟩ hk=>⟨h1.weak hk,h⟩
 lt:=fun ⟨_,_,h⟩ g hg=>(h.lt g hg).2
def Kn {κ ν:Type} (r:RT κ) (s:RT ν) (ok:Ok) (w:World):List (κ×ν)→List MapEntry→Prop
 | [],es=>es=[]
 | x::xs,es=>∃e es',es=e::es'∧isV r ok w x.1 e.key∧isV s ok w x.2 e.val∧Kn r s ok w xs es'
theorem Xg {κ ν:Type} {r:RT κ} {s:RT ν} {ok:Ok} {w w':World}:∀{xs:List (κ×ν)} {es:List MapEntry},Kn r s ok w xs es→Evo ok w w'→Kn r s ok w' xs es
 | [],_,h,_=>h
 | x::xs,es,⟨e,es',h,h1,h2,h3⟩,he=>⟨e,es',h,h1.evo he,h2.evo he,Xg h3 he⟩
theorem Uu {κ ν:Type} {r:RT κ} {s:RT ν} {ok ok':Ok} {w:World}:∀{xs:List (κ×ν)} {es:List MapEntry},Kn r s ok w xs es→(∀b o,ok b o→ok' b o)→Kn r s ok' w xs es
 | [],_,h,_=>h
 | x::xs,es,⟨e,es',h,h1,h2,h3⟩,he=>⟨e,es',h,h1.weak he,h2.weak he,Uu h3 he⟩
def Hs {κ ν:Type} (g:Nat) (r:RT κ) (s:RT ν) (xs:List (κ×ν)):TL where
 blks:=fun b=>b=g
 cov:=fun b _=>b=g
 cb:=fun h=>h
 p:=fun ok w=>∃es clock,w.heap[g]?=some (.map es clock)∧Kn r s ok w xs es.toList∧(xs.map Prod.fst).Nodup∧(es.toList.map MapEntry.born).Nodup∧∀e∈es.toList,e.born<clock
 keep:=fun ⟨es,c,h1,h2,h3⟩ hb he=>⟨es,c,by rw [hb _ rfl]; exact h1,Xg h2 he,h3⟩
 weak:=fun ⟨es,c,h1,h2,h3⟩ hk=>⟨es,c,h1,Uu h2 hk,h3⟩
 lt:=fun ⟨_,_,h,_⟩ b hb=>by subst hb; exact Yl h
def G5 {κ ν τ:Type} (r:RT κ) (s:RT ν) (u:RT τ) (e off:Nat) (f:ν→List τ) (hole:Option κ) (hv:Value) (ok:Ok) (w:World):List (κ×ν)→List MapEntry→List Value→Prop
 | [],[],[]=>True
 | x::xs,en::es,v::vs=>isV r ok w x.1 en.key∧isV s ok w x.2 en.val ∧
  ((hole=some x.1∧v=undef∧∃c,(Qh en.val)[off]?=some c∧zal c hv)∨(hole≠some x.1∧(∃c,(Qh en.val)[off]?=some c∧zal c v)∧∃ys,w.ownsRowS 0 e u.size v (Uq v) ys))∧G5 r s u e off f hole hv ok w xs es vs
 | _,_,_=>False
section
variable {κ ν τ:Type} {r:RT κ} {s:RT ν} {u:RT τ} {e off:Nat} {f:ν→List τ} {hole:Option κ} {hv:Value} {ok ok':Ok} {w w':World}
theorem Og:∀{xs:List (κ×ν)} {es:List MapEntry} {vs:List Value},G5 r s u e off f hole hv ok w xs es vs→(∀v∈vs,∀b,v.ownBlock=some b→w'.heap[b]?=w.heap[b]?)→Evo ok w w'→G5 r s u e off f hole hv ok w' xs es vs
 | [],[],[],h,_,_=>h
 | x::xs,en::es,v::vs,⟨h1,h2,h3,h4⟩,hb,he=>⟨h1.evo he,h2.evo he,h3.imp id fun ⟨q1,q2,ys,q3⟩=>⟨q1,q2,ys,G3 q3 (hb v (.head _))⟩,Og h4 (fun v hv=>hb v (.tail _ hv)) he⟩
 | [],[],_::_,h,_,_=>h.elim
 | [],_::_,_,h,_,_=>h.elim
 | _::_,[],_,h,_,_=>h.elim
 | _::_,_::_,[],h,_,_=>h.elim
theorem Ck:∀{xs:List (κ×ν)} {es:List MapEntry} {vs:List Value},G5 r s u e off f hole hv ok w xs es vs→(∀b o,ok b o→ok' b o)→G5 r s u e off f hole hv ok' w xs es vs
 | [],[],[],h,_=>h
 | x::xs,en::es,v::vs,⟨h1,h2,h3,h4⟩,hk=>⟨h1.weak hk,h2.weak hk,h3,Ck h4 hk⟩
 | [],[],_::_,h,_=>h.elim
 | [],_::_,_,h,_=>h.elim
 | _::_,[],_,h,_=>h.elim
 | _::_,_::_,[],h,_=>h.elim
theorem Qh8:∀{xs:List (κ×ν)} {es:List MapEntry} {vs:List Value},G5 r s u e off f hole hv ok w xs es vs→∀v∈vs,∀b,v.ownBlock=some b→b<w.heap.size
 | [],[],[],h=>by simp
 | x::xs,en::es,v::vs,⟨h1,h2,h3,h4⟩=>by
  intro y hy b hb
  rcases List.mem_cons.1 hy with rfl | hy
  ·rcases h3 with ⟨_,rfl,_⟩ | ⟨_,_,ys,h3⟩
   ·cases hb
   ·exact (h3.lt b hb).2
  ·exact Qh8 h4 y hy b hb
 | [],[],_::_,h=>h.elim
 | [],_::_,_,h=>h.elim
 | _::_,[],_,h=>h.elim
 | _::_,_::_,[],h=>h.elim
end
def M9:Value→List Value
 | .tuple vs=>vs.toList
 | _=>[]
def Q9d {κ ν τ:Type} (g:Nat) (r:RT κ) (s:RT ν) (u:RT τ) (e off:Nat) (f:ν→List τ) (vs:List Value) (xs:List (κ×ν)) (hole:Option κ) (hv:Value) (ok:Ok) (w:World):Prop :=
 ∃es clock,w.heap[g]?=some (.map es clock)∧G5 r s u e off f hole hv ok w xs es.toList vs∧(xs.map Prod.fst).Nodup∧((es.toList.map MapEntry.born).Nodup∧∀e∈es.toList,e.born<clock) ∧
  (vs.Pairwise fun a b=>∀g,a.ownBlock=some g→b.ownBlock≠some g)∧(∀v∈vs,v.ownBlock≠some g)∧∀k,hole=some k→k∉xs.map Prod.fst→hv=.slice none 0 0
def Ae (g:Nat) (vs:List Value) {κ ν:Type} (r:RT κ) (s:RT ν) (u:Ty) (e off:Nat) (fo:Option (Σ u:Ty,ν→List u.De)) (xs:List (κ×ν)) (hole:Option κ) (hv:Value):TL where
 blks:=fun b=>b=g∨∃v∈vs,v.ownBlock=some b
 cov:=fun b o=>b=g∨∃v∈vs,v.ownBlock=some b∧Uq v*(rt u).size≤o
 cb:=fun h=>h.imp id fun ⟨v,h1,h2,_⟩=>⟨v,h1,h2⟩
 p:=fun ok w=>∃f,fo=some ⟨u,f⟩∧Q9d g r s (rt u) e off f vs xs hole hv ok w
 keep:=fun ⟨f,hf,es,c,h1,h2,h3⟩ hb he=>⟨f,hf,es,c,by rw [hb _ (.inl rfl)]; exact h1,Og h2 (fun v hv b hvb=>hb b (.inr ⟨v,hv,hvb⟩)) he,h3⟩
 weak:=fun ⟨f,hf,es,c,h1,h2,h3⟩ hk=>⟨f,hf,es,c,h1,Ck h2 hk,h3⟩
 lt:=fun ⟨_,_,_,_,h,h2,_⟩ b hb=>by
  rcases hb with rfl | ⟨v,hv,hb⟩
  ·exact Yl h
  ·exact Qh8 h2 v hv b hb
def Q37 {k:Ty} (hole:Option (k.De×Nat)):Option k.De:=match hole with
 | some q=>some q.1
 | none=>none
def A5 {k:Ty} (ρ:Nat→Value) (hole:Option (k.De×Nat)):Value:=match hole with
 | some q=>ρ q.2
 | none=>undef
def Qkn:RT (Option Nat) where
 size:=1
 agg:=false
 rep:=fun _ _ b cs=>cs=[.map b]
 len:=fun h=>by rw [h]; rfl
 one:=fun _=>rfl
 flat:=fun h c hc=>by rw [h] at hc; simp at hc; subst hc; rfl
 evo:=fun h _=>h
 weak:=fun h _=>h
def Qon (g:Nat) (k:Ty) (xs:List (k.De×Unit)) (last:Option (k.De×Nat)):TL where
 blks:=fun b=>b=g
 cov:=fun b _=>b=g
 cb:=fun h=>h
 p:=fun ok w=>∃xs':List (k.De×Option Nat),(Hs g (rt k) Qkn xs').p ok w∧xs'.map (fun q=>(q.1,()))=xs∧∀q,last=some q→(q.1,some q.2)∈xs'
 keep:=fun ⟨xs',h1,h2⟩ hb he=>⟨xs',(Hs g (rt k) Qkn xs').keep h1 hb he,h2⟩
 weak:=fun ⟨xs',h1,h2⟩ hk=>⟨xs',(Hs g (rt k) Qkn xs').weak h1 hk,h2⟩
 lt:=fun ⟨xs',h1,_⟩=>(Hs g (rt k) Qkn xs').lt h1
def A6 {k:Ty} (β:Nat→Nat) (last:Option (k.De×Nat)):Option (k.De×Nat):=last.map fun q=>(q.1,β q.2)
def Qoo {κ ν:Type} (g:Nat) (r:RT κ) (s:RT ν) (xs:List (κ×ν)) (key:κ) (b:Nat):TL where
 blks:=fun b=>b=g
 cov:=fun b _=>b=g
 cb:=fun h=>h
 p:=fun ok w=>∃es clock,w.heap[g]?=some (.map es clock)∧Kn r s ok w xs es.toList∧(xs.map Prod.fst).Nodup∧(es.toList.map MapEntry.born).Nodup∧(∀e∈es.toList,e.born<clock)∧∃e∈es.toList,isV r ok w key e.key∧e.born=b
 keep:=fun ⟨es,c,h1,h2,h3,h4,h5,e,h6,h7,h8⟩ hb he=>⟨es,c,by rw [hb _ rfl]; exact h1,Xg h2 he,h3,h4,h5,e,h6,h7.evo he,h8⟩
 weak:=fun ⟨es,c,h1,h2,h3,h4,h5,e,h6,h7,h8⟩ hk=>⟨es,c,h1,Uu h2 hk,h3,h4,h5,e,h6,h7.weak hk,h8⟩
 lt:=fun ⟨_,_,h,_⟩ b hb=>by subst hb; exact Yl h
def Qp (β:Nat→Nat) (ρ:Nat→Value) (id:Nat):Ob→TL
 | .var tid c=>Xf β ρ (β id) tid c
 | .row e t xs=>ml (ρ id) e (rt t) xs
 | .tail e t xs=>Ui (ρ id) e (rt t) xs
 | .map k v xs=>Hs (β id) (rt k) (rt v) xs
 | .mapT k v path e u xs hole=>Ae (β id) (M9 (ρ id)) (rt k) (rt v) u e (Jp path) (M8 v path) xs (Q37 hole) (A5 ρ hole)
 | .mapO k xs last=>Qon (β id) k xs (A6 β last)
 | .mapE k v xs key j=>Qoo (β id) (rt k) (rt v) xs key (β j)
abbrev Vr:=List (Nat×Bool)
structure En where
 t:Nat
 cs:Vr
 av:AV
structure St where
 env:List En
 mem:List (Nat×Ob)
def Jw (a:Act) (cs:Vr):Prop:=∀c∈cs,a.tmps[c.1]?=some (.bool c.2)
def rd (a:Act) (t:Nat):Option Value:=bif Nat.blt t 100000 then a.tmps[t]? else some (.pointer (some ⟨t - 100000,0,none⟩))
theorem Xh {a:Act} {t:Nat} (h:Nat.blt t 100000=true):rd a t=a.tmps[t]?:=by unfold rd; rw [h]; rfl
def enD (β:Nat→Nat) (ρ:Nat→Value) (a:Act) (e:En):DF where
 p:=fun ok w=>(Jw a e.cs→∃cs,rd a e.t=some (e.av.val cs)∧cr β ρ ok w false e.av cs)∧(Jw a e.cs∨rd a e.t=some undef)
 evo:=fun h he=>⟨fun hc=>let ⟨cs,h1,h2⟩:=h.1 hc; ⟨cs,h1,X8 h2 he⟩,h.2⟩
 weak:=fun h hk=>⟨fun hc=>let ⟨cs,h1,h2⟩:=h.1 hc; ⟨cs,h1,Vt h2 hk⟩,h.2⟩
abbrev Qc (β:Nat→Nat) (ρ:Nat→Value) (mem:List (Nat×Ob)):List TL:=mem.map fun q=>Qp β ρ q.1 q.2
abbrev okR (X:Cx) (β:Nat→Nat) (ρ:Nat→Value) (mem:List (Nat×Ob)) (w:World):Ok:=Q5 X.ok X.w.heap.size (fun _=>0) [] (Qc β ρ mem) w
def Rel (X:Cx) (β:Nat→Nat) (ρ:Nat→Value) (S:St) (a:Act) (w:World):Prop :=
 Sb (fun _=>0) X [] (S.env.map (enD β ρ a)) [] (Qc β ρ S.mem) a w
def Lc:List En→Nat→Option En
 | [],_=>none
 | e::l,t=>bif Nat.beq e.t t then some e else Lc l t
theorem Ld {l:List En} {t:Nat} {e:En} (h:Lc l t=some e):e∈l∧e.t=t:=by
 induction l with
 | nil=>simp [Lc] at h
 | cons x l ih =>
  simp only [Lc] at h
  cases hb:Nat.beq x.t t with
  | true=>rw [hb] at h; simp only [cond_true,Option.some.injEq] at h; subst h; exact ⟨.head _,Nat.eq_of_beq_eq_true hb⟩
  | false=>rw [hb] at h; exact ⟨.tail _ (ih h).1,(ih h).2⟩
def Zo (l:List En) (t:Nat):Option En:=bif Nat.blt t 100000 then Lc l t else none
theorem Fp {l:List En} {t:Nat} {e:En} (h:Zo l t=some e):Nat.blt t 100000=true:=by
 unfold Zo at h
 cases hb:Nat.blt t 100000 with
 | true=>rfl
 | false=>rw [hb] at h; cases h
theorem V6 {l:List En} {t:Nat} {e:En} (h:Zo l t=some e):e∈l∧e.t=t:=by
 have hb:=Fp h
 unfold Zo at h
 rw [hb] at h
 exact Ld h
theorem Oh {l:List En} {t:Nat} {e:En} (h:Zo l t=some e) (a:Act):rd a e.t=a.tmps[e.t]?:=Xh (by rw [(V6 h).2]; exact Fp h)
def Q9e (l:List En) (g:Nat):Option En:=Lc l (100000+g)
theorem Qf0 (a:Act) (g:Nat):rd a (100000+g)=some (.pointer (some ⟨g,0,none⟩)):=by
 unfold rd
 have:Nat.blt (100000+g) 100000=false:=by
  cases hb:Nat.blt (100000+g) 100000 with
  | false=>rfl
  | true=>exact absurd (Nat.le_of_ble_eq_true hb) (by omega)
 rw [this]
 simp
def Qtg:Vr→Nat×Bool→Bool
 | [],_=>false
 | (t,b)::l,c=>(Nat.beq t c.1&&(b==c.2))||Qtg l c
theorem Qh9:∀{l:Vr} {c:Nat×Bool},Qtg l c=true→c∈l
 | (t,b)::l,(u,v),h=>by
  simp only [Qtg,Bool.or_eq_true,Bool.and_eq_true] at h
  rcases h with ⟨h1,h2⟩ | h
  ·have:=Nat.eq_of_beq_eq_true h1
   simp only [beq_iff_eq] at h2
   subst this; subst h2; exact .head _
  ·exact .tail _ (Qh9 h)
def Qai:Vr→Vr→Bool
 | [],_=>true
 | c::l,cur=>Qtg cur c&&Qai l cur
theorem Af:∀{l cur:Vr} {a:Act},Qai l cur=true→Jw a cur→Jw a l
 | [],cur,a,_,_=>by intro c hc; cases hc
 | c::l,cur,a,h,hc=>by
  simp only [Qai,Bool.and_eq_true] at h
  intro x hx
  rcases List.mem_cons.1 hx with rfl | hx
  ·exact hc _ (Qh9 h.1)
  ·exact Af h.2 hc x hx
def Le:Value→Option AV
 | .int k n=>some (.d (.int k) n)
 | .bool b=>some (.d .bool b)
 | .string ⟨⟨l⟩⟩=>some (.d .str l)
 | .slice none 0 0=>some .ns
 | .pointer none=>some .np
 | .map none=>some .nm
 | .nilFunc=>some .nf
 | _=>none
def Oi:List Value→Option AV
 | []=>some .nil
 | v::l=>match Le v,Oi l with
  | some x,some r=>some (.cons x r)
  | _,_=>none
def Qaj:Value→Option AV
 | .agg ⟨l⟩=>match Oi l with
  | some r=>some (.ag r)
  | none=>none
 | v=>Le v
section
variable {β:Nat→Nat} {ρ:Nat→Value} {ok:Ok} {w:World}
theorem Lf {v:Value} {x:AV} (h:Le v=some x):cr β ρ ok w false x [v]∧x.val [v]=v:=by
 unfold Le at h
 split at h<;>first | (simp at h; done) | skip
 all_goals
  simp only [Option.some.injEq] at h
  subst h
  exact ⟨rfl,rfl⟩
theorem Sp:∀{l:List Value} {x:AV},Oi l=some x→cr β ρ ok w false x l
 | [],x,h=>by simp [Oi] at h; subst h; rfl
 | v::l,x,h=>by
  simp only [Oi] at h
  split at h
  ·rename_i y r h1 h2
   simp at h; subst h
   exact ⟨[v],l,rfl,(Lf h1).1,Sp h2⟩
  ·cases h
theorem Oj {v:Value} {x:AV} (h:Qaj v=some x):∃cs,v=x.val cs∧cr β ρ ok w false x cs:=by
 unfold Qaj at h
 split at h
 ·rename_i l
  split at h
  ·rename_i r hr
   simp at h; subst h
   exact ⟨l,rfl,Sp (x:=r) hr⟩
  ·cases h
 ·obtain ⟨h1,h2⟩:=Lf (β:=β) (ρ:=ρ) (ok:=ok) (w:=w) h
  exact ⟨_,h2.symm,h1⟩
end
def ev (S:St) (cur:Vr):Operand→Option AV
 | .tmp t=>match Zo S.env t with
  | some e=>bif Qai e.cs cur then some e.av else none
  | none=>none
 | .const v=>Qaj v
 | .func f=>some (.f f .nil)
 | .global g=>match Q9e S.env g with
  | some e=>bif Qai e.cs cur then some e.av else none
  | none=>none
def Fq (t:Nat):Vr→Bool
 | []=>false
 | c::l=>Nat.beq c.1 t||Fq t l
theorem Bu {t:Nat}:∀{l:Vr},Fq t l=false→∀c∈l,c.1≠t
 | [],_,c,hc=>by cases hc
 | d::l,h,c,hc=>by
  simp only [Fq,Bool.or_eq_false_iff] at h
  rcases List.mem_cons.1 hc with rfl | hc
  ·intro e; rw [e] at h; simp [Nat.beq_refl] at h
  ·exact Bu h.2 c hc
def Jx:List En→Nat→List En
 | [],_=>[]
 | e::l,t=>bif Nat.beq e.t t||Fq t e.cs then Jx l t else e::Jx l t
theorem X9 {l:List En} {t:Nat} {e:En} (h:e∈Jx l t):e∈l∧e.t≠t∧∀c∈e.cs,c.1≠t:=by
 induction l with
 | nil=>simp [Jx] at h
 | cons x l ih =>
  simp only [Jx] at h
  cases hb:(Nat.beq x.t t||Fq t x.cs) with
  | true=>rw [hb] at h; exact ⟨.tail _ (ih h).1,(ih h).2⟩
  | false =>
   rw [hb] at h
   simp only [cond_false,List.mem_cons] at h
   rcases h with rfl | h
   ·simp only [Bool.or_eq_false_iff] at hb
    exact ⟨.head _,fun e=>by rw [e] at hb; simp [Nat.beq_refl] at hb,Bu hb.2⟩
   ·exact ⟨.tail _ (ih h).1,(ih h).2⟩
def St.put (S:St) (d:Nat) (cs:Vr) (x:AV):St:=⟨⟨d,cs,x⟩::Jx S.env d,S.mem⟩
def St.del (S:St) (d:Nat):St:=⟨Jx S.env d,S.mem⟩
section
variable {X:Cx} {β:Nat→Nat} {ρ:Nat→Value} {S:St} {a a':Act} {w w':World}
theorem Jf {ok:Ok} {w:World}:∀{D:List DF},Bo ok w D↔∀d∈D,d.p ok w
 | []=>by simp [Bo]
 | d::D=>by simp [Bo,Jf (D:=D)]
theorem Rel.en (h:Rel X β ρ S a w) {e:En} (he:e∈S.env):(enD β ρ a e).p (okR X β ρ S.mem w) w:=Jf.1 h.dat _ (List.mem_map.2 ⟨e,he,rfl⟩)
theorem Rel.get (h:Rel X β ρ S a w) {t:Nat} {e:En} (he:Zo S.env t=some e) (hc:Jw a e.cs) :
  ∃cs,a.tmps[t]?=some (e.av.val cs)∧cr β ρ (okR X β ρ S.mem w) w false e.av cs:=by
 have hr:=Oh he a
 obtain ⟨hm,rfl⟩:=V6 he
 rw [←hr]
 exact (h.en hm).1 hc
theorem Rel.ev (h:Rel X β ρ S a w) {cur:Vr} (hc:Jw a cur) {x:Operand} {v:AV} (hx:ev S cur x=some v) :
  ∃cs,a.eval x=v.val cs∧cr β ρ (okR X β ρ S.mem w) w false v cs:=by
 cases x with
 | tmp t =>
  simp only [Gx.ev] at hx
  split at hx
  ·rename_i e he
   cases hb:Qai e.cs cur with
   | false=>rw [hb] at hx; cases hx
   | true =>
    rw [hb] at hx
    simp at hx; subst hx
    obtain ⟨cs,h1,h2⟩:=h.get he (Af hb hc)
    exact ⟨cs,by simp [Act.eval,h1],h2⟩
  ·cases hx
 | const v =>
  obtain ⟨cs,h1,h2⟩:=Oj (β:=β) (ρ:=ρ) (ok:=okR X β ρ S.mem w) (w:=w) hx
  exact ⟨cs,h1,h2⟩
 | func f =>
  simp [Gx.ev] at hx; subst hx
  exact ⟨[.func (.func f) #[] #[]],rfl,[],rfl,rfl⟩
 | global g =>
  simp only [Gx.ev] at hx
  split at hx
  ·rename_i e he
   cases hb:Qai e.cs cur with
   | false=>rw [hb] at hx; cases hx
   | true =>
    rw [hb] at hx
    simp at hx; subst hx
    obtain ⟨hm,ht⟩:=Ld he
    obtain ⟨cs,h1,h2⟩:=(h.en hm).1 (Af hb hc)
    rw [ht,Qf0] at h1
    exact ⟨cs,Option.some.inj h1,h2⟩
  ·cases hx
theorem Rel.act (h:Rel X β ρ S a w) {env':List En} (hs:a'.tmps.size=a.tmps.size) (hd:a'.defers=a.defers) (hr:∀t∈X.res,a'.tmps[t]?=a.tmps[t]?)
  (he:∀e∈env',(enD β ρ a' e).p (okR X β ρ S.mem w) w):Rel X β ρ ⟨env',S.mem⟩ a' w :=
 {sz:=hs.trans h.sz,df:=hd.trans h.df,fr:=fun t ht=>(hr t ht).trans (h.fr t ht),pn:=h.pn,tm:=by simp,bel:=h.bel,
  dat:=Jf.2 fun d hd=>by obtain ⟨e,hm,rfl⟩:=List.mem_map.1 hd; exact he e hm,
  obj:=h.obj,own:=h.own,dHH:=h.dHH,dHO:=h.dHO,dOO:=h.dOO }
theorem Y2 {d t:Nat} (hne:t≠d) (v:Value):(a.put (some d) v).tmps[t]?=a.tmps[t]?:=by
 have:d≠t:=fun e=>hne e.symm
 simp [Act.put,this]
theorem If {d t:Nat} (hne:t≠d) (v:Value):rd (a.put (some d) v) t=rd a t:=by
 unfold rd
 rw [Y2 hne]
theorem en_put (h:Rel X β ρ S a w) {d:Nat} (v:Value) {e:En} (he:e∈Jx S.env d):(enD β ρ (a.put (some d) v) e).p (okR X β ρ S.mem w) w:=by
 obtain ⟨h1,h2,h3⟩:=X9 he
 have hcc:Jw (a.put (some d) v) e.cs↔Jw a e.cs:=⟨fun hc c hm=>by rw [←Y2 (h3 c hm) v]; exact hc c hm,fun hc c hm=>by rw [Y2 (h3 c hm) v]; exact hc c hm⟩
 refine ⟨fun hc=>?_,?_⟩
 ·obtain ⟨cs,h4,h5⟩:=(h.en h1).1 (hcc.1 hc)
  exact ⟨cs,by rw [If h2]; exact h4,h5⟩
 ·rw [hcc,If h2]; exact (h.en h1).2
theorem Rel.put (h:Rel X β ρ S a w) {d:Nat} (hd:okD X d=true) {cs:Vr} {x:AV} {v:Value}
  (hx:Jw (a.put (some d) v) cs→∃c,v=x.val c∧cr β ρ (okR X β ρ S.mem w) w false x c) (hu:Jw (a.put (some d) v) cs∨v=undef):Rel X β ρ (S.put d cs x) (a.put (some d) v) w:=by
 refine h.act (by simp [Act.put]) rfl (fun k hk=>Y2 (fun (e:k=d)=>Nh hd (e▸hk)) v) fun e he=>?_
 rcases List.mem_cons.1 he with rfl | he
 ·refine ⟨fun hc=>?_,hu.imp id fun e=>by rw [Xh (Xw hd)]; simp [Act.put,h.sz,Kl hd,e]⟩
  obtain ⟨c,h1,h2⟩:=hx hc
  exact ⟨c,by rw [Xh (Xw hd)]; simp [Act.put,h.sz,Kl hd,h1],h2⟩
 ·exact en_put h v he
theorem Rel.del (h:Rel X β ρ S a w) {d:Nat} (hd:okD X d=true) (v:Value):Rel X β ρ (S.del d) (a.put (some d) v) w :=
 h.act (by simp [Act.put]) rfl (fun k hk=>Y2 (fun (e:k=d)=>Nh hd (e▸hk)) v) fun e he=>en_put h v he
theorem Rel.less (h:Rel X β ρ S a w) {env':List En} (he:∀e∈env',e∈S.env):Rel X β ρ ⟨env',S.mem⟩ a w :=
 h.act rfl rfl (fun _ _=>rfl) fun e hm=>h.en (he e hm)
theorem Qa (a:Act):Jw a []:=fun _ h=>by cases h
theorem Rel.put0 (h:Rel X β ρ S a w) {d:Nat} (hd:okD X d=true) {x:AV} {c:List Value} (hx:cr β ρ (okR X β ρ S.mem w) w false x c):Rel X β ρ (S.put d [] x) (a.put (some d) (x.val c)) w :=
 h.put hd (fun _=>⟨c,rfl,hx⟩) (.inl (Qa _))
def Qb:List (Nat×Ob)→Nat→Option Ob
 | [],_=>none
 | q::l,t=>bif Nat.beq q.1 t then some q.2 else Qb l t
def Ht:List (Nat×Ob)→Nat→Ob→List (Nat×Ob)
 | [],_,_=>[]
 | q::l,t,o=>bif Nat.beq q.1 t then (t,o)::l else q::Ht l t o
def J3:List (Nat×Ob)→Nat→List (Nat×Ob)
 | [],_=>[]
 | q::l,t=>bif Nat.beq q.1 t then l else q::J3 l t
theorem Jl:∀{l:List (Nat×Ob)} {t:Nat} {o:Ob},Qb l t=some o→∃l1 l2,l=l1++(t,o)::l2∧(∀o',Ht l t o'=l1++(t,o')::l2)∧J3 l t=l1++l2
 | q::l,t,o,h=>by
  simp only [Qb] at h
  cases hb:Nat.beq q.1 t with
  | true =>
   rw [hb] at h
   simp at h
   have:=Nat.eq_of_beq_eq_true hb
   subst h; subst this
   exact ⟨[],l,rfl,fun o'=>by simp [Ht,hb],by simp [J3,hb]⟩
  | false =>
   rw [hb] at h
   obtain ⟨l1,l2,h1,h2,h3⟩:=Jl h
   exact ⟨q::l1,l2,by rw [h1]; rfl,fun o'=>by simp [Ht,hb,h2 o'],by simp [J3,hb,h3]⟩
theorem Rel.ob (h:Rel X β ρ S a w) {id:Nat} {o:Ob} (ho:Qb S.mem id=some o) :
  (Qp β ρ id o).p (okR X β ρ S.mem w) w∧∀g,(Qp β ρ id o).blks g→X.mine g:=by
 obtain ⟨l1,l2,h1,_⟩:=Jl ho
 exact h.own _ (by rw [h1]; simp [Qc])
end
end Gx

/- Maps of data: what the model does with them. -/
namespace Gx
open Go Go.RowKit Gd
set_option linter.unusedVariables false
set_option linter.unusedSimpArgs false
def Gr:Ty→Bool
 | .int _=>true
 | .bool=>true
 | .str=>true
 | _=>false
def Ag:Ty→Bool
 | .pr a r=>Gr a&&Ag r
 | .unit=>true
 | t=>Gr t
def Ah:Ty→Bool
 | .st fs=>Ag fs
 | t=>Gr t
def eqK:(t:Ty)→t.De→t.De→Bool
 | .int _,a,b=>a==b
 | .bool,a,b=>a==b
 | .str,a,b=>a==b
 | .pr f r,a,b=>eqK f a.1 b.1&&eqK r a.2 b.2
 | .unit,_,_=>true
 | .st fs,a,b=>eqK fs a b
 | _,_,_=>false
def Qx {k:Ty} {ν:Type} (key:k.De):List (k.De×ν)→Option ν
 | []=>none
 | x::l=>bif eqK k key x.1 then some x.2 else Qx key l
def Yx {k:Ty} {ν:Type} (key:k.De) (v:ν):List (k.De×ν)→List (k.De×ν)
 | []=>[(key,v)]
 | x::l=>bif eqK k key x.1 then (key,v)::l else x::Yx key v l
def Z0:(t:Ty)→t.De→List Value
 | .int k,n=>[.int k n]
 | .bool,b=>[.bool b]
 | .str,s=>[Yu s]
 | .pr f r,x=>Z0 f x.1++Z0 r x.2
 | .st fs,x=>Z0 fs x
 | _,_=>[]
def Ye:(t:Ty)→t.De→Value
 | .int k,n=>.int k n
 | .bool,b=>.bool b
 | .str,s=>Yu s
 | .st fs,x=>.agg (Z0 fs x).toArray
 | _,_=>undef
theorem Bv {t:Ty} (ht:Gr t=true) {ok:Ok} {w:World} {x:t.De} {cs:List Value}:(rt t).rep ok w x cs↔cs=Z0 t x:=by
 cases t<;>simp [Gr] at ht<;>exact Iff.rfl
theorem Ig:∀{t:Ty},Ag t=true→∀{ok:Ok} {w:World} {x:t.De} {cs:List Value},(rt t).rep ok w x cs↔cs=Z0 t x
 | .pr f r,ht,ok,w,x,cs=>by
  simp only [Ag,Bool.and_eq_true] at ht
  constructor
  ·rintro ⟨c1,c2,rfl,h1,h2⟩
   rw [(Bv ht.1).1 h1,(Ig ht.2).1 h2]; rfl
  ·rintro rfl
   exact ⟨_,_,rfl,(Bv ht.1).2 rfl,(Ig ht.2).2 rfl⟩
 | .unit,ht,ok,w,x,cs=>Iff.rfl
 | .int _,ht,ok,w,x,cs=>Bv ht
 | .bool,ht,ok,w,x,cs=>Bv ht
 | .str,ht,ok,w,x,cs=>Bv ht
 | .sl _,ht,_,_,_,_=>by simp [Ag,Gr] at ht
 | .arr _ _,ht,_,_,_,_=>by simp [Ag,Gr] at ht
 | .st _,ht,_,_,_,_=>by simp [Ag,Gr] at ht
theorem Qb7 {t:Ty} (ht:Ah t=true) {ok:Ok} {w:World} {x:t.De} {v:Value}:isV (rt t) ok w x v↔v=Ye t x:=by
 cases t with
 | int k=>exact Qh5
 | bool=>exact N1
 | str=>exact Qs5
 | st fs =>
  constructor
  ·rintro ⟨cs,h,rfl⟩
   rw [(Ig ht).1 h]; rfl
  ·rintro rfl
   exact ⟨_,(Ig ht).2 rfl,rfl⟩
 | _=>simp [Ah,Gr] at ht
theorem Up {t:Ty} (ht:Ah t=true) {ok:Ok} {w:World} {x:t.De} {v:Value} (h:isV (rt t) ok w x v):v=Ye t x:=(Qb7 ht).1 h
theorem Ih {t:Ty} (ht:Ah t=true) {ok:Ok} {w:World} (x:t.De):isV (rt t) ok w x (Ye t x):=(Qb7 ht).2 rfl
theorem Ai {t:Ty} (ht:Gr t=true) {x y:t.De}:eqK t x y=true↔x=y:=by
 cases t<;>simp [Gr] at ht<;>simp [eqK]
theorem Qia:∀{t:Ty},Ag t=true→∀{x y:t.De},eqK t x y=true↔x=y
 | .pr f r,ht,x,y=>by
  simp only [Ag,Bool.and_eq_true] at ht
  obtain ⟨x1,x2⟩:=x
  obtain ⟨y1,y2⟩:=y
  simp only [eqK,Bool.and_eq_true,Ai ht.1,Qia ht.2,Prod.mk.injEq]
 | .unit,ht,x,y=>by simp [eqK]
 | .int _,ht,x,y=>Ai ht
 | .bool,ht,x,y=>Ai ht
 | .str,ht,x,y=>Ai ht
 | .sl _,ht,_,_=>by simp [Ag,Gr] at ht
 | .arr _ _,ht,_,_=>by simp [Ag,Gr] at ht
 | .st _,ht,_,_=>by simp [Ag,Gr] at ht
theorem V3 {t:Ty} (ht:Ah t=true) {x y:t.De}:eqK t x y=true↔x=y:=by
 cases t with
 | st fs=>exact Qia (t:=fs) ht
 | int k=>exact Ai (t:=.int k) rfl
 | bool=>exact Ai (t:=.bool) rfl
 | str=>exact Ai (t:=.str) rfl
 | _=>simp [Ah,Gr] at ht
def Ko:Ty→TypeDesc→Bool
 | .int k,.int k'=>Fn k k'
 | .bool,.bool=>true
 | .str,.string=>true
 | _,_=>false
def Qko (T:Tab) (f:Field) (t:Ty) (i:Nat):Bool:=f.name != "_" && Nat.beq f.offset i&&(match Qe T f.type with
 | some e=>Ko t e.d
 | none=>false)
def K1 (T:Tab):List Field→Ty→Nat→Bool
 | [],.unit,_=>true
 | [f],t,i=>Qko T f t i
 | f::g::fs,.pr a r,i=>Qko T f a i&&K1 T (g::fs) r (i+1)
 | _,_,_=>false
def Ys (T:Tab):Ty→TypeDesc→Bool
 | .st fs,.struct ⟨fds⟩=>K1 T fds fs 0
 | t,d=>Ko t d
theorem Wn {t:Ty} {d:TypeDesc} (h:Ko t d=true):Gr t=true:=by
 cases t<;>cases d<;>simp [Ko] at h<;>rfl
theorem W6 {T:Tab} {f:Field} {t:Ty} {i:Nat} (h:Qko T f t i=true):(f.name != "_")=true∧f.offset=i∧∃e,Qe T f.type=some e∧Ko t e.d=true:=by
 simp only [Qko,Bool.and_eq_true] at h
 refine ⟨h.1.1,Nat.eq_of_beq_eq_true h.1.2,?_⟩
 have h2:=h.2
 split at h2
 ·exact ⟨_,by assumption,h2⟩
 ·cases h2
theorem Mf {T:Tab}:∀{fds:List Field} {t:Ty} {i:Nat},K1 T fds t i=true→Ag t=true
 | [],t,i,h=>by cases t<;>simp [K1] at h; rfl
 | [f],t,i,h=>by
  simp only [K1] at h
  obtain ⟨_,_,e,_,h3⟩:=W6 h
  have:=Wn h3
  cases t<;>simp [Gr] at this<;>rfl
 | f::g::fs,t,i,h=>by
  cases t<;>simp only [K1,Bool.and_eq_true] at h
  all_goals first | (cases h; done) | skip
  obtain ⟨_,_,e,_,h3⟩:=W6 h.1
  simp only [Ag,Bool.and_eq_true]
  exact ⟨Wn h3,Mf h.2⟩
theorem Q9 {T:Tab} {t:Ty} {d:TypeDesc} (h:Ys T t d=true):Ah t=true:=by
 cases t with
 | st fs =>
  cases d<;>simp [Ys,Ko] at h
  rename_i fds
  obtain ⟨fds⟩:=fds
  exact Mf h
 | _=>cases d<;>simp [Ys,Ko] at h<;>rfl
theorem Hu {t:Ty} (h:Gr t=true) (x:t.De):Z0 t x=[Ye t x]:=by
 cases t<;>simp [Gr] at h<;>rfl
section
variable {P:Program} {T:Tab}
theorem Qb8 (hT:Qy P T) {f:Field} {t:Ty} {i:Nat} (h:Qko T f t i=true) {fs:List Field} {p1 p2 r1 r2:List Value} {x y:t.De} (h1:p1.length=i) (h2:p2.length=i) {q:Bool}
  (hq:N9 T fs (p1++Z0 t x++r1) (p2++Z0 t y++r2)=some q):N9 T (f::fs) (p1++Z0 t x++r1) (p2++Z0 t y++r2)=some (eqK t x y&&q):=by
 obtain ⟨_,ho,e,he,hs⟩:=W6 h
 obtain ⟨e1,e2,e3,e4,e5⟩:=e
 have g1:(p1++Z0 t x++r1)[f.offset]?=some (Ye t x):=by
  rw [Hu (Wn hs),ho,←h1]; simp
 have g2:(p2++Z0 t y++r2)[f.offset]?=some (Ye t y):=by
  rw [Hu (Wn hs),ho,←h2]; simp
 unfold N9
 rw [he,g1,g2,hq]
 cases t<;>cases e2<;>simp [Ko] at hs
 ·rename_i k k'
  simp only [Ye]
  rw [show Fn k k=true from by cases k<;>rfl]
  rfl
 ·rfl
 ·rfl
theorem Qb9 (hT:Qy P T):∀{fds:List Field} {t:Ty} {i:Nat},K1 T fds t i=true→∀{p1 p2:List Value} {x y:t.De},p1.length=i→p2.length=i →
  N9 T fds (p1++Z0 t x) (p2++Z0 t y)=some (eqK t x y)∧E4 fds=true
 | [],t,i,h,p1,p2,x,y,h1,h2=>by
  cases t<;>simp [K1] at h
  exact ⟨rfl,rfl⟩
 | [f],t,i,h,p1,p2,x,y,h1,h2=>by
  simp only [K1] at h
  have hb:E4 [f]=true:=by simp only [E4,List.all_cons,List.all_nil,Bool.and_true]; exact (W6 h).1
  refine ⟨?_,hb⟩
  have:=Qb8 hT h (fs:=[]) (r1:=[]) (r2:=[]) (x:=x) (y:=y) h1 h2 rfl
  simpa using this
 | f::g::fs,t,i,h,p1,p2,x,y,h1,h2=>by
  cases t<;>simp only [K1,Bool.and_eq_true] at h
  all_goals first | (cases h; done) | skip
  rename_i a r
  obtain ⟨x1,x2⟩:=x
  obtain ⟨y1,y2⟩:=y
  have hs:=Wn (W6 h.1).2.2.choose_spec.2
  have l1:(Z0 a x1).length=1:=by rw [Hu hs]; rfl
  have l2:(Z0 a y1).length=1:=by rw [Hu hs]; rfl
  obtain ⟨q1,q2⟩:=Qb9 hT h.2 (p1:=p1++Z0 a x1) (p2:=p2++Z0 a y1) (x:=x2) (y:=y2) (by simp [l1,h1]) (by simp [l2,h2])
  refine ⟨?_,?_⟩
  ·have:=Qb8 hT h.1 (fs:=g::fs) (r1:=Z0 r x2) (r2:=Z0 r y2) (x:=x1) (y:=y1) h1 h2 q1
   simp only [Z0,eqK]; simpa [List.append_assoc] using this
  ·simp only [E4,List.all_cons,Bool.and_eq_true] at q2 ⊢
   exact ⟨(W6 h.1).1,q2⟩
theorem Xo (hT:Qy P T) {kt:TypeId} {te:TE} (ht:Qe T kt=some te) {t:Ty} (h:Ys T t te.d=true) (x y:t.De) (w:World):(Op.equal kt (Ye t x) (Ye t y)).run P w=.ok (eqK t x y) w:=by
 have hu:=(Js hT ht).2
 cases t with
 | st fs =>
  obtain ⟨e1,e2,e3,e4,e5⟩:=te
  cases e2<;>simp [Ys,Ko] at h
  rename_i fds
  obtain ⟨fds⟩:=fds
  have hf:P.fieldsOf kt=⟨fds⟩:=by simp [Program.fieldsOf,hu]
  have:=run_equalIn_struct (P:=P) w 9999 kt (Z0 fs x).toArray (Z0 fs y).toArray (by rw [hf,hu]) (Qbv hT ht).1
  rw [hf] at this
  show (Op.equalIn 10000 kt _ _).run P w=_
  simp only [Ye]
  rw [this]
  obtain ⟨q1,q2⟩:=Qb9 hT h (p1:=[]) (p2:=[]) (x:=x) (y:=y) rfl rfl
  simp only [eqK]
  exact Qah hT 9998 q2 (by simpa using q1)
 | int k =>
  obtain ⟨e1,e2,e3,e4,e5⟩:=te
  cases e2<;>simp [Ys,Ko] at h
  exact run_equalIn_int w 9999 kt k _ x y hu
 | bool =>
  obtain ⟨e1,e2,e3,e4,e5⟩:=te
  cases e2<;>simp [Ys,Ko] at h
  exact run_equalIn_bool' w 9999 kt x y hu
 | str =>
  obtain ⟨e1,e2,e3,e4,e5⟩:=te
  cases e2<;>simp [Ys,Ko] at h
  show (Op.equalIn 10000 kt _ _).run P w=_
  simp only [Ye,Yu]
  rw [run_equalIn_string w 9999 kt ⟨⟨x⟩⟩ ⟨⟨y⟩⟩ hu]
  rw [show (ByteArray.mk ⟨x⟩).toList=x from ByteArray.toList_mk x,show (ByteArray.mk ⟨y⟩).toList=y from ByteArray.toList_mk y]
  rfl
 | _=>cases te with | mk e1 e2 e3 e4 e5=>cases e2<;>simp [Ys,Ko] at h
theorem Hv (hT:Qy P T) {kt:TypeId} {te:TE} (ht:Qe T kt=some te) {t:Ty} (h:Ys T t te.d=true) (key:t.De) (w:World) {ν:Type} {s:RT ν} {ok:Ok}:∀{xs:List (t.De×ν)} {es:List MapEntry} (i:Nat),Kn (rt t) s ok w xs es →
  (Qx key xs=none∧(Instr.findAsking kt (Ye t key) es i).run P w=.ok none w∧(Instr.findNow te.d (Ye t key) es i=some none∨Instr.findNow te.d (Ye t key) es i=none)) ∨
  (∃(j:Nat) (e:MapEntry) (y:ν),Qx key xs=some y∧(Instr.findAsking kt (Ye t key) es i).run P w=.ok (some (i+j,e.val)) w∧(Instr.findNow te.d (Ye t key) es i=some (some (i+j,e.val))∨Instr.findNow te.d (Ye t key) es i=none)∧es[j]?=some e∧e.key=Ye t key∧isV s ok w y e.val)
 | [],es,i,hp=>by
  have:es=[]:=hp
  subst this
  exact .inl ⟨rfl,rfl,.inl rfl⟩
 | x::xs,es,i,hp=>by
  obtain ⟨e,es',rfl,h1,h2,h3⟩:=hp
  have hk:=Up (Q9 h) h1
  have heq:=Xo hT ht h key x.1 w
  have hsn:Instr.sameNow te.d (Ye t key) e.key=some (eqK t key x.1)∨Instr.sameNow te.d (Ye t key) e.key=none:=by
   rw [hk]
   cases t with
   | st fs=>exact .inr (by cases te with | mk e1 e2 e3 e4 e5=>cases e2<;>rfl)
   | int k =>
    obtain ⟨e1,e2,e3,e4,e5⟩:=te
    cases e2<;>simp [Ys,Ko] at h
    exact .inl (by simp [Instr.sameNow,Ye,eqK])
   | bool =>
    obtain ⟨e1,e2,e3,e4,e5⟩:=te
    cases e2<;>simp [Ys,Ko] at h
    exact .inl (by simp [Instr.sameNow,Ye,eqK])
   | str =>
    obtain ⟨e1,e2,e3,e4,e5⟩:=te
    cases e2<;>simp [Ys,Ko] at h
    refine .inl ?_
    simp only [Instr.sameNow,Ye,eqK,Yu]
    congr 1
    rw [Bool.eq_iff_iff,MapKept.bytes_beq]
    simp
   | _=>cases te with | mk e1 e2 e3 e4 e5=>cases e2<;>simp [Ys,Ko] at h
  simp only [Qx,Instr.findNow,Instr.findAsking,Sem.run_bind,hk,heq,Result.andThen_ok]
  rw [hk] at hsn
  cases he:eqK t key x.1 with
  | true =>
   have:=(V3 (Q9 h)).1 he
   refine .inr ⟨0,e,x.2,rfl,by simp,?_,rfl,by rw [hk,this],h2⟩
   rcases hsn with hsn | hsn<;>rw [hsn]
   ·rw [he]; exact .inl rfl
   ·exact .inr rfl
  | false =>
   rcases Hv hT ht h key w (i+1) h3 with ⟨q1,q2,q3⟩ | ⟨j,e',y,q1,q2,q3,q4,q5,q6⟩
   ·refine .inl ⟨q1,by simpa using q2,?_⟩
    rcases hsn with hsn | hsn<;>rw [hsn]
    ·rw [he]; exact q3
    ·exact .inr rfl
   ·have ea:i+1+j=i+(j+1):=by omega
    rw [ea] at q2 q3
    refine .inr ⟨j+1,e',y,q1,by simpa using q2,?_,q4,q5,q6⟩
    rcases hsn with hsn | hsn<;>rw [hsn]
    ·rw [he]; exact q3
    ·exact .inr rfl
theorem Ge (hT:Qy P T) {kt:TypeId} {te:TE} (ht:Qe T kt=some te) {t:Ty} (h:Ys T t te.d=true) (key:t.De) (w:World) {ν:Type} {s:RT ν} {ok:Ok} {xs:List (t.De×ν)} {es:List MapEntry} (hp:Kn (rt t) s ok w xs es) :
  (Qx key xs=none∧(Instr.findKey kt (Ye t key) es).run P w=.ok none w) ∨
  (∃(j:Nat) (e:MapEntry) (y:ν),Qx key xs=some y∧(Instr.findKey kt (Ye t key) es).run P w=.ok (some (j,e.val)) w∧es[j]?=some e∧e.key=Ye t key∧isV s ok w y e.val):=by
 have hu:=(Js hT ht).2
 rcases Hv hT ht h key w 0 hp with ⟨q1,q2,q3⟩ | ⟨j,e,y,q1,q2,q3,q4,q5,q6⟩
 ·refine .inl ⟨q1,?_⟩
  rcases q3 with q3 | q3
  ·exact MapKept.run_findKey hu q3
  ·simp [Instr.findKey,run_underlying hu,Result.andThen,q3,q2]
 ·rw [Nat.zero_add] at q2 q3
  refine .inr ⟨j,e,y,q1,?_,q4,q5,q6⟩
  rcases q3 with q3 | q3
  ·exact MapKept.run_findKey hu q3
  ·simp [Instr.findKey,run_underlying hu,Result.andThen,q3,q2]
theorem Ii (hT:Qy P T) {f:Field} {t:Ty} {i:Nat} (h:Qko T f t i=true) {p r:List Value} {x:t.De} (h1:p.length=i) (w:World) (e:Bool) (n:Nat) :
  (part f.type (p++Z0 t x++r).toArray f.offset).run P w=.ok (Ye t x) w∧(Instr.checkKey e (n+1) f.type (Ye t x)).run P w=.ok () w:=by
 obtain ⟨_,ho,te,he,hs⟩:=W6 h
 have hu:=(Js hT he).2
 have g1:(p++Z0 t x++r)[f.offset]?=some (Ye t x):=by
  rw [Hu (Wn hs),ho,←h1]; simp
 refine ⟨Dl hT he ?_ g1,?_⟩
 ·obtain ⟨e1,e2,e3,e4,e5⟩:=te
  cases t<;>cases e2<;>simp [Ko] at hs<;>rfl
 ·refine MapKept.run_checkKey hu ?_ e n
  obtain ⟨e1,e2,e3,e4,e5⟩:=te
  cases t<;>cases e2<;>simp [Ko] at hs
  ·rename_i a b
   have:=Gb hs
   exact this
  ·trivial
  ·trivial
theorem A7 (hT:Qy P T) (w:World) (e:Bool) (n:Nat) {body:Field→PUnit→Sem (ForInStep PUnit)} {cs:List Value}
  (hbody:∀(f:Field) (v:Value),f.name ≠ "_" → (part f.type cs.toArray f.offset).run P w=.ok v w→(Instr.checkKey e (n+1) f.type v).run P w=.ok () w→(body f ⟨⟩).run P w=.ok (ForInStep.yield ⟨⟩) w):∀{fds:List Field} {t:Ty} {i:Nat},K1 T fds t i=true→∀{p:List Value} {x:t.De},p.length=i→cs=p++Z0 t x →
  (forIn fds PUnit.unit body).run P w=.ok ⟨⟩ w
 | [],t,i,h,p,x,h1,hc=>by simp
 | [f],t,i,h,p,x,h1,hc=>by
  simp only [K1] at h
  have hn:f.name ≠ "_" := by simpa using (W6 h).1
  obtain ⟨q1,q2⟩:=Ii hT h (r:=[]) (x:=x) h1 w e n
  rw [List.append_nil,←hc] at q1
  simp [hbody f _ hn q1 q2,Result.andThen]
 | f::g::fs,t,i,h,p,x,h1,hc=>by
  cases t<;>simp only [K1,Bool.and_eq_true] at h
  all_goals first | (cases h; done) | skip
  rename_i a r
  obtain ⟨x1,x2⟩:=x
  have hs:=Wn (W6 h.1).2.2.choose_spec.2
  have l1:(Z0 a x1).length=1:=by rw [Hu hs]; rfl
  have hn:f.name ≠ "_" := by simpa using (W6 h.1).1
  obtain ⟨q1,q2⟩:=Ii hT h.1 (r:=Z0 r x2) (x:=x1) h1 w e n
  have hc':cs=p++Z0 a x1++Z0 r x2:=by rw [hc]; simp [Z0]
  rw [←hc'] at q1
  have ih:=A7 hT w e n hbody h.2 (p:=p++Z0 a x1) (x:=x2) (by simp [l1,h1]) hc'
  rw [List.forIn_cons]
  simp only [Sem.run_bind,hbody f _ hn q1 q2,Result.andThen]
  exact ih
theorem Kb (hT:Qy P T) {kt:TypeId} {te:TE} (ht:Qe T kt=some te) {t:Ty} (h:Ys T t te.d=true) (x:t.De) (w:World) (e:Bool):(Instr.checkKey e 10000 kt (Ye t x)).run P w=.ok () w:=by
 have hu:=(Js hT ht).2
 cases t with
 | st fs =>
  obtain ⟨e1,e2,e3,e4,e5⟩:=te
  cases e2<;>simp [Ys,Ko] at h
  rename_i fds
  obtain ⟨fds⟩:=fds
  unfold Instr.checkKey
  simp only [Sem.run_bind,run_underlying hu,Result.andThen,Ye]
  simp only [List.forIn_toArray]
  rw [A7 hT w e 9998 (cs:=Z0 fs x) (fun f v hn h1 h2=>by simp [hn,h1,h2,Result.andThen]) h (p:=[]) (x:=x) rfl rfl]
  rfl
 | int k =>
  obtain ⟨e1,e2,e3,e4,e5⟩:=te
  cases e2<;>simp [Ys,Ko] at h
  exact MapKept.run_checkKey hu (show MapKept.IsKey (.int _) (.int k x) from Gb h) e 9999
 | bool =>
  obtain ⟨e1,e2,e3,e4,e5⟩:=te
  cases e2<;>simp [Ys,Ko] at h
  exact MapKept.run_checkKey hu (show MapKept.IsKey .bool (.bool x) from trivial) e 9999
 | str =>
  obtain ⟨e1,e2,e3,e4,e5⟩:=te
  cases e2<;>simp [Ys,Ko] at h
  exact MapKept.run_checkKey hu (show MapKept.IsKey .string (Yu x) from trivial) e 9999
 | _=>cases te with | mk e1 e2 e3 e4 e5=>cases e2<;>simp [Ys,Ko] at h
theorem Xp {t:Ty} (h:Gr t=true) (x:t.De) (n:Nat):Instr.sameBits n (Ye t x) (Ye t x)=true:=by
 cases t<;>simp [Gr] at h<;>cases n<;>simp [Instr.sameBits,Ye,Yu]
 all_goals rw [MapKept.bytes_beq]
theorem Ol {n:Nat}:∀{t:Ty},Ag t=true→∀(x:t.De),((Z0 t x).zip (Z0 t x)).all (fun (x,y)=>Instr.sameBits n x y)=true
 | .pr f r,ht,x=>by
  simp only [Ag,Bool.and_eq_true] at ht
  have ih:=Ol (n:=n) ht.2 x.2
  simp only [Z0,Hu ht.1,List.singleton_append,List.zip_cons_cons,List.all_cons,Xp ht.1,ih,Bool.and_self]
 | .unit,ht,x=>rfl
 | .int k,ht,x=>by have:=Xp (t:=.int k) rfl x n; simpa [Z0,Ye] using this
 | .bool,ht,x=>by have:=Xp (t:=.bool) rfl x n; simpa [Z0,Ye] using this
 | .str,ht,x=>by have:=Xp (t:=.str) rfl x n; simpa [Z0,Ye] using this
 | .sl _,ht,_=>by simp [Ag,Gr] at ht
 | .arr _ _,ht,_=>by simp [Ag,Gr] at ht
 | .st _,ht,_=>by simp [Ag,Gr] at ht
theorem Sq {t:Ty} (h:Ah t=true) (x:t.De) (w:World):(Instr.keyThatStays (Ye t x) (Ye t x)).run P w=.ok (Ye t x) w:=by
 have:Instr.sameBits 10000 (Ye t x) (Ye t x)=true:=by
  cases t with
  | st fs =>
   have:=Ol (n:=9999) h x
   simp [Ye,Instr.sameBits] at this ⊢
   exact this
  | int k=>exact Xp (t:=.int k) rfl x _
  | bool=>exact Xp (t:=.bool) rfl x _
  | str=>exact Xp (t:=.str) rfl x _
  | _=>simp [Ah,Gr] at h
 simp [Instr.keyThatStays,this]
theorem Dm (hT:Qy P T) {t kt et:TypeId} {te tk tz:TE} (ht:Qe T t=some te) (htd:te.d=.map kt et) (hk:Qe T kt=some tk) (hz:Qe T et=some tz)
  {k:Ty} {ν:Type} {s:RT ν} (hd:Ys T k tk.d=true) {ok:Ok} {w:World} {g:Nat} {es:Array MapEntry} {clock:Nat} (hg:w.heap[g]?=some (.map es clock)) {xs:List (k.De×ν)} (hp:Kn (rt k) s ok w xs es.toList)
  (key:k.De) {z:ν} (hzv:isV s ok w z tz.z) (c:Bool) :
  ∃v,(Instr.lookup t (.map (some g)) (Ye k key) c).run P w=.ok (if c=true then .tuple #[v,.bool (Qx key xs).isSome] else v) w∧isV s ok w ((Qx key xs).getD z) v ∧
   (Qx key xs=none∧v=tz.z∨∃(j:Nat) (e:MapEntry),es.toList[j]?=some e∧e.key=Ye k key∧v=e.val):=by
 have hu:=(Js hT ht).2
 rw [htd] at hu
 have hzr:(zeroValue et).run P w=.ok tz.z w:=Y9 hT w hz
 rcases Ge hT hk hd key w hp with ⟨q1,q2⟩ | ⟨j,e,y,q1,q2,q3,q4,q5⟩
 ·refine ⟨tz.z,?_,by rw [q1]; exact hzv,.inl ⟨q1,rfl⟩⟩
  simp [Instr.lookup,run_underlying hu,MapKept.run_getObj_map hg,Kb hT hk hd,q2,hzr,Result.andThen,q1]
 ·refine ⟨e.val,?_,by rw [q1]; exact q5,.inr ⟨j,e,q3,q4,rfl⟩⟩
  simp [Instr.lookup,run_underlying hu,MapKept.run_getObj_map hg,Kb hT hk hd,q2,Result.andThen,q1]
theorem R8 (hT:Qy P T) {t kt et:TypeId} {te tk tz:TE} (ht:Qe T t=some te) (htd:te.d=.map kt et) (hk:Qe T kt=some tk) (hz:Qe T et=some tz)
  {k:Ty} (hd:Ys T k tk.d=true) {w:World} (key:k.De) (c:Bool) :
  (Instr.lookup t (.map none) (Ye k key) c).run P w=.ok (if c=true then .tuple #[tz.z,.bool false] else tz.z) w:=by
 have hu:=(Js hT ht).2
 rw [htd] at hu
 have hzr:(zeroValue et).run P w=.ok tz.z w:=Y9 hT w hz
 rcases Ge (ok:=fun _ _=>True) hT hk hd key w (s:=Qbt) (xs:=[]) (es:=[]) rfl with ⟨q1,q2⟩ | ⟨j,e,y,q1,q2,q3,q4,q5⟩
 ·simp [Instr.lookup,run_underlying hu,Kb hT hk hd,q2,hzr,Result.andThen]
 ·simp at q3
theorem Ij (hT:Qy P T) {kt:TypeId} {te:TE} (ht:Qe T kt=some te) {k:Ty} (h:Ys T k te.d=true) (key:k.De) {ν:Type} {s:RT ν} {ok:Ok} {w:World} {y:ν} {v:Value} (hv:isV s ok w y v):∀{xs:List (k.De×ν)} {es:List MapEntry},Kn (rt k) s ok w xs es →
  (Qx key xs=none∧∀c,Kn (rt k) s ok w (Yx key y xs) (es++[⟨Ye k key,v,c⟩])) ∨
  (∃(j:Nat) (e:MapEntry),(∀i,(Instr.findAsking kt (Ye k key) es i).run P w=.ok (some (i+j,e.val)) w)∧es[j]?=some e∧e.key=Ye k key∧Kn (rt k) s ok w (Yx key y xs) (es.modify j fun e=>{ e with key:=Ye k key,val:=v }))
 | [],es,hp=>by
  have:es=[]:=hp
  subst this
  exact .inl ⟨rfl,fun c=>⟨_,[],rfl,Ih (Q9 h) key,hv,rfl⟩⟩
 | x::xs,es,hp=>by
  obtain ⟨e,es',rfl,h1,h2,h3⟩:=hp
  have hk:=Up (Q9 h) h1
  have heq:=Xo hT ht h key x.1 w
  simp only [Yx,Qx,Instr.findAsking,Sem.run_bind,hk,heq,Result.andThen_ok]
  cases he:eqK k key x.1 with
  | true =>
   have:=(V3 (Q9 h)).1 he
   exact .inr ⟨0,e,by simp,rfl,by rw [hk,this],⟨_,es',rfl,Ih (Q9 h) key,hv,h3⟩⟩
  | false =>
   rcases Ij hT ht h key hv h3 with ⟨q1,q2⟩ | ⟨j,e',q2,q3,q4,q5⟩
   ·exact .inl ⟨q1,fun c=>⟨e,_,rfl,h1,h2,q2 c⟩⟩
   ·exact .inr ⟨j+1,e',fun i=>by rw [show i+(j+1)=i+1+j by omega]; simpa using q2 (i+1),q3,q4,⟨e,_,rfl,h1,h2,q5⟩⟩
def Xq (es:Array MapEntry) (clock:Nat):Prop:=(es.toList.map MapEntry.born).Nodup∧∀e∈es.toList,e.born<clock
theorem Hf {k:Ty} {ν:Type} (hk:Ah k=true) (key:k.De) (y:ν):∀{xs:List (k.De×ν)},(xs.map Prod.fst).Nodup→((Yx key y xs).map Prod.fst).Nodup∧∀z∈(Yx key y xs).map Prod.fst,z=key∨z∈xs.map Prod.fst
 | [],_=>⟨by simp [Yx],by simp [Yx]⟩
 | x::xs,h=>by
  simp only [Yx]
  have h1:=List.nodup_cons.1 h
  cases he:eqK k key x.1 with
  | true =>
   have:=(V3 hk).1 he
   refine ⟨?_,fun z hz=>?_⟩
   ·simp only [cond_true,List.map_cons,List.nodup_cons]
    exact ⟨by rw [this]; exact h1.1,h1.2⟩
   ·simp only [cond_true,List.map_cons,List.mem_cons] at hz
    rcases hz with rfl | hz
    ·exact .inl rfl
    ·exact .inr (List.mem_cons_of_mem _ hz)
  | false =>
   obtain ⟨h2,h3⟩:=Hf hk key y h1.2
   refine ⟨?_,fun z hz=>?_⟩
   ·simp only [cond_false,List.map_cons,List.nodup_cons]
    refine ⟨fun hm=>?_,h2⟩
    rcases h3 _ hm with hm | hm
    ·rw [hm,(V3 hk).2 rfl] at he; cases he
    ·exact h1.1 hm
   ·simp only [cond_false,List.map_cons,List.mem_cons] at hz
    rcases hz with rfl | hz
    ·exact .inr (List.mem_cons_self)
    ·rcases h3 _ hz with hz | hz
     ·exact .inl hz
     ·exact .inr (List.mem_cons_of_mem _ hz)
theorem G6 (hT:Qy P T) {t kt et:TypeId} {te tk:TE} (ht:Qe T t=some te) (htd:te.d=.map kt et) (hk:Qe T kt=some tk)
  {k:Ty} (hd:Ys T k tk.d=true) {w:World} {g:Nat} {es:Array MapEntry} {clock:Nat} (hg:w.heap[g]?=some (.map es clock)) (key:k.De) {v:Value} :
  ((Instr.findKey kt (Ye k key) es.toList).run P w=.ok none w→(Instr.mapUpdate t (.map (some g)) (Ye k key) v).run P w=.ok () { w with heap:=w.heap.setIfInBounds g (.map (es.push ⟨Ye k key,v,clock⟩) (clock+1)) }) ∧
  (∀j e,(Instr.findKey kt (Ye k key) es.toList).run P w=.ok (some (j,e.val)) w→es.toList[j]?=some e→e.key=Ye k key →
   (Instr.mapUpdate t (.map (some g)) (Ye k key) v).run P w=.ok () { w with heap:=w.heap.setIfInBounds g (.map (es.modify j fun e=>{ e with key:=Ye k key,val:=v }) clock) }):=by
 have hu:=(Js hT ht).2
 rw [htd] at hu
 refine ⟨fun q=>?_,fun j e q2 q3 q4=>?_⟩
 ·simp [Instr.mapUpdate,run_underlying hu,MapKept.run_getObj_map hg,Kb hT hk hd,q,MapKept.run_setObj_map _ hg,Result.andThen]
 ·have hj:es[j]?=some e:=by simpa using q3
  simp [Instr.mapUpdate,run_underlying hu,MapKept.run_getObj_map hg,Kb hT hk hd,q2,hj,q4,Sq (Q9 hd),MapKept.run_setObj_map _ hg,Result.andThen]
theorem Dn {es:Array MapEntry} {clock:Nat} (hst:Xq es clock) (kv v:Value):Xq (es.push ⟨kv,v,clock⟩) (clock+1):=by
 refine ⟨?_,fun e he=>?_⟩
 ·simp only [Array.toList_push,List.map_append,List.map_cons,List.map_nil]
  refine List.nodup_append.2 ⟨hst.1,by simp,fun a ha b hb=>?_⟩
  obtain ⟨e,he,rfl⟩:=List.mem_map.1 ha
  simp at hb; subst hb
  exact Nat.ne_of_lt (hst.2 e he)
 ·simp only [Array.toList_push,List.mem_append,List.mem_singleton] at he
  rcases he with he | rfl
  ·exact Nat.lt_succ_of_lt (hst.2 e he)
  ·exact Nat.lt_succ_self _
theorem Ik {es:Array MapEntry} {clock:Nat} (hst:Xq es clock) (kv v:Value) (j:Nat):Xq (es.modify j fun e=>{ e with key:=kv,val:=v }) clock:=by
 have hmap:∀(l:List MapEntry) (j:Nat),(l.modify j fun e=>{ e with key:=kv,val:=v }).map MapEntry.born=l.map MapEntry.born:=by
  intro l
  induction l with
  | nil=>intro j; cases j<;>rfl
  | cons x l ih=>intro j; cases j with
   | zero=>rfl
   | succ j=>simp [ih j]
 refine ⟨?_,fun e he=>?_⟩
 ·rw [Array.toList_modify,hmap]; exact hst.1
 ·have hb:e.born∈(es.toList.modify j fun e=>{ e with key:=kv,val:=v }).map MapEntry.born:=List.mem_map.2 ⟨e,by simpa using he,rfl⟩
  rw [hmap] at hb
  obtain ⟨e',he',hbe⟩:=List.mem_map.1 hb
  rw [←hbe]; exact hst.2 e' he'
theorem Hw (hT:Qy P T) {kt:TypeId} {te:TE} (ht:Qe T kt=some te) {t:Ty} (h:Ys T t te.d=true) (key:t.De) (w:World) {ν:Type} {s:RT ν} {ok:Ok} {xs:List (t.De×ν)} {es:List MapEntry} (hp:Kn (rt t) s ok w xs es)
  {r:Option (Nat×Value)} (hr:(Instr.findAsking kt (Ye t key) es 0).run P w=.ok r w):(Instr.findKey kt (Ye t key) es).run P w=.ok r w:=by
 have hu:=(Js hT ht).2
 rcases Hv hT ht h key w 0 hp with ⟨q1,q2,q3⟩ | ⟨j,e,y,q1,q2,q3,q4,q5,q6⟩
 ·rw [hr] at q2; injection q2 with q2; subst q2
  rcases q3 with q3 | q3
  ·exact MapKept.run_findKey hu q3
  ·simp [Instr.findKey,run_underlying hu,Result.andThen,q3,hr]
 ·rw [hr] at q2; injection q2 with q2; subst q2
  rcases q3 with q3 | q3
  ·exact MapKept.run_findKey hu q3
  ·simp [Instr.findKey,run_underlying hu,Result.andThen,q3,hr]
theorem C6 (hT:Qy P T) {t kt et:TypeId} {te tk:TE} (ht:Qe T t=some te) (htd:te.d=.map kt et) (hk:Qe T kt=some tk)
  {k:Ty} {ν:Type} {s:RT ν} (hd:Ys T k tk.d=true) {ok:Ok} {w:World} {g:Nat} {es:Array MapEntry} {clock:Nat} (hg:w.heap[g]?=some (.map es clock)) {xs:List (k.De×ν)} (hp:Kn (rt k) s ok w xs es.toList) (hst:Xq es clock)
  (key:k.De) {y:ν} {v:Value} (hv:isV s ok w y v) :
  ∃es' clock',(Instr.mapUpdate t (.map (some g)) (Ye k key) v).run P w=.ok () { w with heap:=w.heap.setIfInBounds g (.map es' clock') }∧Kn (rt k) s ok w (Yx key y xs) es'.toList∧Xq es' clock':=by
 rcases Ij hT hk hd key hv hp with ⟨q1,q2⟩ | ⟨j,e,q2,q3,q4,q5⟩
 ·rcases Ge hT hk hd key w hp with ⟨r1,r2⟩ | ⟨j,e,y',r1,_⟩
  ·exact ⟨_,_,(G6 hT ht htd hk hd hg key).1 r2,by simpa using q2 clock,Dn hst _ _⟩
  ·rw [q1] at r1; cases r1
 ·have h2:=q2 0
  rw [Nat.zero_add] at h2
  exact ⟨_,_,(G6 hT ht htd hk hd hg key).2 j e (Hw hT hk hd key w hp h2) q3 q4,by simpa using q5,Ik hst _ _ _⟩
end
end Gx

/- Parts of values; values as data. -/
namespace Gx
open Go Go.RowKit Gd
set_option linter.unusedVariables false
set_option linter.unusedSimpArgs false
def exF:(fs:Ty)→fs.De→AV
 | .pr f r,x=>.cons (.d f x.1) (exF r x.2)
 | .unit,_=>.nil
 | .int k,x=>.cons (.d (.int k) x) .nil
 | .bool,x=>.cons (.d .bool x) .nil
 | .str,x=>.cons (.d .str x) .nil
 | .sl e,x=>.cons (.d (.sl e) x) .nil
 | .arr n e,x=>.cons (.d (.arr n e) x) .nil
 | .st fs,x=>.cons (.d (.st fs) x) .nil
 | .ref,x=>.cons (.d .ref x) .nil
 | .rose fs,x=>.cons (.d (.rose fs) x) .nil
def Qth:AV→AV→AV
 | .cons x r,m=>.cons x (Qth r m)
 | .nil,m=>m
 | x,_=>x
def Qca:AV→Bool
 | .cons _ r=>Qca r
 | .nil=>true
 | _=>false
@[reducible] def Qop:Ty→Ty→Ty
 | .pr f g,u=>.pr f (Qop g u)
 | .int k,u=>.pr (.int k) u
 | .bool,u=>.pr .bool u
 | .str,u=>.pr .str u
 | .sl e,u=>.pr (.sl e) u
 | .arr n e,u=>.pr (.arr n e) u
 | .st fs,u=>.pr (.st fs) u
 | .ref,u=>.pr .ref u
 | .rose fs,u=>.pr (.rose fs) u
 | .unit,u=>.pr .unit u
def Qti:(fs u:Ty)→(Qop fs u).De→fs.De×u.De
 | .pr f g,u,x=>match Qti g u x.2 with
  | (y,z)=>((x.1,y),z)
 | .int _,_,x=>x
 | .bool,_,x=>x
 | .str,_,x=>x
 | .sl _,_,x=>x
 | .arr _ _,_,x=>x
 | .st _,_,x=>x
 | .ref,_,x=>x
 | .rose _,_,x=>x
 | .unit,_,x=>x
def E5:AV→Option AV
 | .d (.st fs) x=>some (exF fs x)
 | .d (.rose fs) x=>some (Qth (exF fs x.x) (.cons (.d (.sl (.rose fs)) x.ks) .nil))
 | .ag l=>some l
 | _=>none
def kid:AV→Nat→Option (AV×Nat)
 | .cons x _,0=>some (x,0)
 | .cons x r,k+1=>match kid r k with
  | some (y,o)=>some (y,x.size+o)
  | none=>none
 | _,_=>none
def nav:List PS→AV→Option AV
 | [],x=>some x
 | .f k off::ps,x=>match E5 x with
  | some l=>match kid l k with
   | some (y,o)=>bif Nat.beq o off then nav ps y else none
   | none=>none
  | none=>none
 | .i _ _::_,_=>none
def V7 (g:AV→Option AV):AV→Nat→Option (AV×Nat)
 | .cons x r,0=>match g x with
  | some y=>some (.cons y r,0)
  | none=>none
 | .cons x r,k+1=>match V7 g r k with
  | some (r',o)=>some (.cons x r',x.size+o)
  | none=>none
 | _,_=>none
def Il (cur new:AV):Bool:=Nat.beq new.size cur.size&&new.inMem&&new.isVal&&cur.isVal
def Be:List PS→AV→AV→Option AV
 | [],cur,new=>bif Il cur new then some new else none
 | .f k off::ps,cur,new=>match E5 cur with
  | some l=>match V7 (fun c=>Be ps c new) l k with
   | some (l',o)=>bif Nat.beq o off then some (.ag l') else none
   | none=>none
  | none=>none
 | .i _ _::_,_,_=>none
def asD (M:List (Nat×Ob)):AV→(t:Ty)→Option t.De
 | .d t x,u=>Ty.cast t u x
 | .ns,.sl _=>some []
 | .z,.sl _=>some []
 | .s id,.sl e=>match Qb M id with
  | some (.tail _ t xs)=>Ty.cast (.sl t) (.sl e) xs
  | _=>none
 | .ag l,.st fs=>asD M l fs
 | .ag l,.rose fs=>match asD M l (Qop fs (.sl (.rose fs))) with
  | some x=>match Qti fs (.sl (.rose fs)) x with
   | (a,ks)=>some (.mk a ks)
  | none=>none
 | .nil,.unit=>some ()
 | .cons x r,.pr f g=>match asD M x f,asD M r g with
  | some a,some b=>some (a,b)
  | _,_=>none
 | .cons x .nil,.int k=>asD M x (.int k)
 | .cons x .nil,.bool=>asD M x .bool
 | .cons x .nil,.str=>asD M x .str
 | .cons x .nil,.sl e=>asD M x (.sl e)
 | .cons x .nil,.arr n e=>asD M x (.arr n e)
 | .cons x .nil,.st fs=>asD M x (.st fs)
 | .cons x .nil,.rose fs=>asD M x (.rose fs)
 | _,_=>none
section
variable {β:Nat→Nat} {ρ:Nat→Value} {ok:Ok} {w:World}
theorem Qf1:∀{fs:Ty} {x:fs.De} {cs:List Value},(rt fs).rep ok w x cs→cr β ρ ok w false (exF fs x) cs
 | .pr f r,x,cs,⟨c1,c2,h,h1,h2⟩=>⟨c1,c2,h,h1,Qf1 h2⟩
 | .unit,_,cs,h=>h
 | .int k,x,cs,h=>⟨cs,[],by simp,h,rfl⟩
 | .bool,x,cs,h=>⟨cs,[],by simp,h,rfl⟩
 | .str,x,cs,h=>⟨cs,[],by simp,h,rfl⟩
 | .sl e,x,cs,h=>⟨cs,[],by simp,h,rfl⟩
 | .arr n e,x,cs,h=>⟨cs,[],by simp,h,rfl⟩
 | .st fs,x,cs,h=>⟨cs,[],by simp,h,rfl⟩
 | .ref,x,cs,h=>h.elim
 | .rose fs,x,cs,h=>⟨cs,[],by simp,h,rfl⟩
theorem Qcb:∀(fs:Ty) (x:fs.De),Qca (exF fs x)=true
 | .pr f r,x=>Qcb r x.2
 | .unit,_=>rfl
 | .int k,x=>rfl
 | .bool,x=>rfl
 | .str,x=>rfl
 | .sl e,x=>rfl
 | .arr n e,x=>rfl
 | .st fs,x=>rfl
 | .ref,x=>rfl
 | .rose fs,x=>rfl
theorem Qak:∀{l m:AV} {c1 c2:List Value},Qca l=true→cr β ρ ok w false l c1→cr β ρ ok w false m c2→cr β ρ ok w false (Qth l m) (c1++c2)
 | .cons x r,m,c1,c2,hl,⟨d1,d2,e,h1,h2⟩,hm=>⟨d1,d2++c2,by rw [e,List.append_assoc],h1,Qak (l:=r) hl h2 hm⟩
 | .nil,m,c1,c2,_,h,hm=>by
  have h:c1=[]:=h
  subst h; exact hm
theorem Qib:∀{fs u:Ty} {x:(Qop fs u).De} {cs:List Value},(rt (Qop fs u)).rep ok w x cs→∃c1 c2,cs=c1++c2∧(rt fs).rep ok w (Qti fs u x).1 c1∧(rt u).rep ok w (Qti fs u x).2 c2
 | .pr f g,u,x,cs,⟨c1,c2,e,h1,h2⟩=>by
  obtain ⟨d1,d2,e2,h3,h4⟩:=Qib (fs:=g) (u:=u) h2
  exact ⟨c1++d1,d2,by rw [e,e2,List.append_assoc],⟨c1,d1,rfl,h1,h3⟩,h4⟩
 | .int _,_,x,cs,h=>h
 | .bool,_,x,cs,h=>h
 | .str,_,x,cs,h=>h
 | .sl _,_,x,cs,h=>h
 | .arr _ _,_,x,cs,h=>h
 | .st _,_,x,cs,h=>h
 | .ref,_,x,cs,h=>h
 | .rose _,_,x,cs,h=>h
 | .unit,_,x,cs,h=>h
theorem Lg {x l:AV} {cs:List Value} (h:E5 x=some l) (hc:cr β ρ ok w false x cs):cr β ρ ok w false l cs:=by
 unfold E5 at h
 split at h
 ·simp at h; subst h; exact Qf1 hc
 ·simp at h; subst h
  obtain ⟨c1,c2,rfl,h1,h2⟩:=Qkl hc
  exact Qak (Qcb _ _) (Qf1 h1) ⟨c2,[],by simp,h2,rfl⟩
 ·simp at h; subst h; exact hc
 ·cases h
theorem Qoq:∀{l:AV} {k:Nat} {y:AV} {o:Nat} {cs:List Value},kid l k=some (y,o)→cr β ρ ok w false l cs →
  cr β ρ ok w false y ((cs.drop o).take y.size)∧o+y.size≤cs.length
 | .cons x r,0,y,o,cs,h,⟨c1,c2,e,h1,h2⟩=>by
  simp [kid] at h
  obtain ⟨rfl,rfl⟩:=h
  subst e
  rw [←Ur h1,List.drop_zero,List.take_left]
  exact ⟨h1,by simp⟩
 | .cons x r,k+1,y,o,cs,h,⟨c1,c2,e,h1,h2⟩=>by
  simp only [kid] at h
  split at h
  ·rename_i y' o' hk
   simp at h
   obtain ⟨rfl,rfl⟩:=h
   obtain ⟨h3,h4⟩:=Qoq hk h2
   subst e
   have hl:=Ur h1
   refine ⟨?_,by rw [List.length_append,hl]; omega⟩
   rw [←hl,←List.drop_drop,List.drop_left]
   exact h3
  ·cases h
 | .d ..,_,_,_,_,h,_=>by simp [kid] at h
 | .p ..,_,_,_,_,h,_=>by simp [kid] at h
 | .e ..,_,_,_,_,h,_=>by simp [kid] at h
 | .s ..,_,_,_,_,h,_=>by simp [kid] at h
 | .m ..,_,_,_,_,h,_=>by simp [kid] at h
 | .b ..,_,_,_,_,h,_=>by simp [kid] at h
 | .w ..,_,_,_,_,h,_=>by simp [kid] at h
 | .a ..,_,_,_,_,h,_=>by simp [kid] at h
 | .z,_,_,_,_,h,_=>by simp [kid] at h
 | .ns,_,_,_,_,h,_=>by simp [kid] at h
 | .np,_,_,_,_,h,_=>by simp [kid] at h
 | .nm,_,_,_,_,h,_=>by simp [kid] at h
 | .nf,_,_,_,_,h,_=>by simp [kid] at h
 | .f ..,_,_,_,_,h,_=>by simp [kid] at h
 | .ag ..,_,_,_,_,h,_=>by simp [kid] at h
 | .tp ..,_,_,_,_,h,_=>by simp [kid] at h
 | .nil,_,_,_,_,h,_=>by simp [kid] at h
theorem Bw:∀{ps:List PS} {x y:AV} {cs:List Value},nav ps x=some y→cr β ρ ok w false x cs →
  cr β ρ ok w false y ((cs.drop (Jp ps)).take y.size)∧Jp ps+y.size≤cs.length
 | [],x,y,cs,h,hc=>by
  simp [nav] at h; subst h
  have:=Ur hc
  simp only [Jp,List.drop_zero]
  rw [List.take_of_length_le (by omega)]
  exact ⟨hc,by omega⟩
 | .f k off::ps,x,y,cs,h,hc=>by
  simp only [nav] at h
  split at h
  ·rename_i l hl
   split at h
   ·rename_i y' o hk
    cases hb:Nat.beq o off with
    | false=>rw [hb] at h; cases h
    | true =>
     rw [hb] at h
     simp only [cond_true] at h
     have:=Nat.eq_of_beq_eq_true hb
     subst this
     obtain ⟨h1,h2⟩:=Qoq hk (Lg hl hc)
     obtain ⟨h3,h4⟩:=Bw h h1
     have hl:=Ur h1
     rw [hl] at h4
     refine ⟨?_,by simp only [Jp,PS.off]; omega⟩
     simp only [Jp,PS.off]
     rw [List.drop_take,List.drop_drop,List.take_take] at h3
     rwa [Nat.min_eq_left (by omega)] at h3
   ·cases h
  ·cases h
 | .i _ _::_,_,_,_,h,_=>by simp [nav] at h
theorem Lh {g:AV→Option AV} {off:Nat} {ds:List Value}
  (hg:∀{c c':AV} {cs:List Value},g c=some c'→cr β ρ ok w false c cs→cr β ρ ok w false c' (cs.take off++ds++cs.drop (off+ds.length))∧off+ds.length≤cs.length) :
  ∀{l l':AV} {k o:Nat} {cs:List Value},V7 g l k=some (l',o)→cr β ρ ok w false l cs →
   cr β ρ ok w false l' (cs.take (o+off)++ds++cs.drop (o+off+ds.length))∧o+off+ds.length≤cs.length
 | .cons x r,l',0,o,cs,h,⟨c1,c2,e,h1,h2⟩=>by
  simp only [V7] at h
  split at h
  ·rename_i y hy
   simp at h
   obtain ⟨rfl,rfl⟩:=h
   obtain ⟨h3,h4⟩:=hg hy h1
   subst e
   refine ⟨⟨_,c2,?_,h3,h2⟩,by rw [List.length_append]; omega⟩
   rw [Nat.zero_add,List.take_append_of_le_length (by omega),List.drop_append_of_le_length (by omega)]
   simp only [List.append_assoc]
  ·cases h
 | .cons x r,l',k+1,o,cs,h,⟨c1,c2,e,h1,h2⟩=>by
  simp only [V7] at h
  split at h
  ·rename_i r' o' hr
   simp at h
   obtain ⟨rfl,rfl⟩:=h
   obtain ⟨h3,h4⟩:=Lh hg hr h2
   subst e
   have hl:=Ur h1
   refine ⟨⟨c1,_,?_,h1,h3⟩,by rw [List.length_append,hl]; omega⟩
   have e1:x.size+o'+off=c1.length+(o'+off):=by rw [hl]; omega
   rw [e1,List.take_append,List.take_of_length_le (by omega),Nat.add_sub_cancel_left]
   simp only [List.append_assoc]
   congr 3
   rw [Nat.add_assoc,←List.drop_drop,List.drop_left]
  ·cases h
 | .d ..,_,_,_,_,h,_=>by simp [V7] at h
 | .p ..,_,_,_,_,h,_=>by simp [V7] at h
 | .e ..,_,_,_,_,h,_=>by simp [V7] at h
 | .s ..,_,_,_,_,h,_=>by simp [V7] at h
 | .m ..,_,_,_,_,h,_=>by simp [V7] at h
 | .b ..,_,_,_,_,h,_=>by simp [V7] at h
 | .w ..,_,_,_,_,h,_=>by simp [V7] at h
 | .a ..,_,_,_,_,h,_=>by simp [V7] at h
 | .z,_,_,_,_,h,_=>by simp [V7] at h
 | .ns,_,_,_,_,h,_=>by simp [V7] at h
 | .np,_,_,_,_,h,_=>by simp [V7] at h
 | .nm,_,_,_,_,h,_=>by simp [V7] at h
 | .nf,_,_,_,_,h,_=>by simp [V7] at h
 | .f ..,_,_,_,_,h,_=>by simp [V7] at h
 | .ag ..,_,_,_,_,h,_=>by simp [V7] at h
 | .tp ..,_,_,_,_,h,_=>by simp [V7] at h
 | .nil,_,_,_,_,h,_=>by simp [V7] at h
theorem Wa {new:AV} {ds:List Value} (hn:cr β ρ ok w false new ds):∀{ps:List PS} {cur av':AV} {cs:List Value},Be ps cur new=some av'→cr β ρ ok w false cur cs →
  cr β ρ ok w false av' (cs.take (Jp ps)++ds++cs.drop (Jp ps+ds.length))∧Jp ps+ds.length≤cs.length
 | [],cur,av',cs,h,hc=>by
  simp only [Be] at h
  cases hb:Il cur new with
  | false=>rw [hb] at h; cases h
  | true =>
   rw [hb] at h
   simp at h; subst h
   simp only [Il,Bool.and_eq_true] at hb
   have h1:=Nat.eq_of_beq_eq_true hb.1.1.1
   have h2:=Ur hn
   have h3:=Ur hc
   simp only [Jp,List.take_zero,List.nil_append,Nat.zero_add]
   rw [List.drop_of_length_le (by omega),List.append_nil]
   exact ⟨hn,by omega⟩
 | .f k off::ps,cur,av',cs,h,hc=>by
  simp only [Be] at h
  split at h
  ·rename_i l hl
   split at h
   ·rename_i l' o hk
    cases hb:Nat.beq o off with
    | false=>rw [hb] at h; cases h
    | true =>
     rw [hb] at h
     simp only [cond_true,Option.some.injEq] at h
     have:=Nat.eq_of_beq_eq_true hb
     subst this; subst h
     have:=Lh (off:=Jp ps) (ds:=ds) (fun {c c' cs'} hg hcc=>Wa hn (ps:=ps) hg hcc) hk (Lg hl hc)
     exact this
   ·cases h
  ·cases h
 | .i _ _::_,_,_,_,h,_=>by simp [Be] at h
theorem Cl {τ:Type} {r:RT τ} {A:Option Addr} {c:Nat}:Sh r ok w [] (.slice A 0 c):=⟨A,0,c,rfl,rfl,Nat.zero_le _,fun h=>absurd h (by omega)⟩
theorem Qal {τ:Type} {r:RT τ} {xs:List τ} {v u:Value} (hz:zal v u) (h:isV (rSl r) ok w xs u):isV (rSl r) ok w xs v:=by
 rcases hz with rfl | ⟨h0,A,rfl⟩
 ·exact h
 ·rw [h0] at h
  have hnil:xs=[]:=by
   obtain ⟨A',c',h1,_⟩:=E3 h
   injection h1 with _ h2
   exact List.length_eq_zero_iff.1 h2.symm
  subst hnil
  exact Uh.2 Cl
theorem Qor {τ:Type} {r:RT τ} {xs:List τ} {v u:Value} (hz:zal v u) (h:isV (rSl r) ok w xs v):isV (rSl r) ok w xs u:=by
 rcases hz with rfl | ⟨rfl,A,rfl⟩
 ·exact h
 ·have hnil:xs=[]:=by
   obtain ⟨A',c',h1,_⟩:=E3 h
   injection h1 with _ h2
   exact List.length_eq_zero_iff.1 h2.symm
  subst hnil
  exact Uh.2 Cl
theorem V8 {M:List (Nat×Ob)} (hM:∀id o,Qb M id=some o→(Qp β ρ id o).p ok w) :
  ∀{x:AV} {t:Ty} {y:t.De} {cs:List Value},asD M x t=some y→cr β ρ ok w false x cs→(rt t).rep ok w y cs
 | .d t x,u,y,cs,h,hc=>by
  obtain ⟨rfl,rfl⟩:=Ty.cast_ok (by simpa only [asD] using h)
  exact hc
 | .ns,u,y,cs,h,hc=>by
  cases u<;>simp [asD] at h
  subst h
  exact ⟨_,hc,Cl⟩
 | .z,u,y,cs,h,⟨A,hc⟩=>by
  cases u<;>simp [asD] at h
  subst h
  exact ⟨_,hc,Cl⟩
 | .s id,u,y,cs,h,hc=>by
  cases u<;>simp [asD] at h
  rename_i e
  split at h
  ·rename_i e' t xs ho
   obtain ⟨he,rfl⟩:=Ty.cast_ok h
   injection he with he
   subst he
   have:=(hM _ _ ho).1
   obtain ⟨⟨v,hv,hz⟩,_⟩:=hc
   exact ⟨_,hv,Uh.1 (Qal hz this)⟩
  ·cases h
 | .ag l,u,y,cs,h,hc=>by
  cases u<;>simp only [asD] at h<;>first | (cases h; done) | skip
  ·rename_i fs
   exact V8 hM (x:=l) (t:=fs) h hc
  ·rename_i fs
   split at h
   ·rename_i y hy
    simp at h; subst h
    obtain ⟨c1,c2,rfl,h1,h2⟩:=Qib (V8 hM (x:=l) hy hc)
    exact Qol h1 h2
   ·cases h
 | .nil,u,y,cs,h,hc=>by
  cases u<;>simp [asD] at h
  exact hc
 | .cons x r,u,y,cs,h,⟨c1,c2,e,h1,h2⟩=>by
  have key:∀{v:Ty} {z:v.De},r=.nil→asD M x v=some z→(rt v).rep ok w z cs:=by
   intro v z hr hx
   subst hr
   have:c2=[]:=h2
   subst this; subst e
   rw [List.append_nil]
   exact V8 hM hx h1
  cases u with
  | pr f g =>
   simp only [asD] at h
   split at h
   ·rename_i a b ha hb
    simp at h; subst h
    exact ⟨c1,c2,e,V8 hM ha h1,V8 hM hb h2⟩
   ·cases h
  | unit=>simp [asD] at h
  | int k=>cases r<;>simp [asD] at h; exact key rfl h
  | bool=>cases r<;>simp [asD] at h; exact key rfl h
  | str=>cases r<;>simp [asD] at h; exact key rfl h
  | sl e=>cases r<;>simp [asD] at h; exact key rfl h
  | arr n e=>cases r<;>simp [asD] at h; exact key rfl h
  | st fs=>cases r<;>simp [asD] at h; exact key rfl h
  | ref=>cases r<;>simp [asD] at h
  | rose fs=>cases r<;>simp only [asD] at h<;>first | (cases h; done) | exact key rfl h
 | .p ..,u,_,_,h,_=>by cases u<;>simp [asD] at h
 | .e ..,u,_,_,h,_=>by cases u<;>simp [asD] at h
 | .m ..,u,_,_,h,_=>by cases u<;>simp [asD] at h
 | .b ..,u,_,_,h,_=>by cases u<;>simp [asD] at h
 | .w ..,u,_,_,h,_=>by cases u<;>simp [asD] at h
 | .a ..,u,_,_,h,_=>by cases u<;>simp [asD] at h
 | .np,u,_,_,h,_=>by cases u<;>simp [asD] at h
 | .nm,u,_,_,h,_=>by cases u<;>simp [asD] at h
 | .nf,u,_,_,h,_=>by cases u<;>simp [asD] at h
 | .f ..,u,_,_,h,_=>by cases u<;>simp [asD] at h
 | .tp ..,u,_,_,h,_=>by cases u<;>simp [asD] at h
end
end Gx

/- The quiet operations. -/
namespace Gx
open Go Go.RowKit Gd
set_option linter.unusedVariables false
set_option linter.unusedSimpArgs false
structure TX where
 T:Tab
 tys:List (Nat×Ty)
 gl:List (Nat×Σ t:Ty,t.De)
def lit:AV→Option Value
 | .d (.int k) n=>some (.int k n)
 | .d .bool b=>some (.bool b)
 | .d .str l=>some (Yu l)
 | _=>none
def Qic:Value→Option AV
 | .int k n=>some (.d (.int k) n)
 | .bool b=>some (.d .bool b)
 | .string ⟨⟨l⟩⟩=>some (.d .str l)
 | _=>none
def nth:AV→Nat→Option AV
 | .cons x _,0=>some x
 | .cons _ r,k+1=>nth r k
 | _,_=>none
def evs (S:St) (cur:Vr):List Operand→Option AV
 | []=>some .nil
 | x::xs=>match ev S cur x,evs S cur xs with
  | some v,some r=>some (.cons v r)
  | _,_=>none
def Qos (c:Bool) (x y:Option AV):Option AV :=
 match x,y with
 | some (.d .bool p),some (.d .bool q)=>some (.d .bool (bif c then p else q))
 | some (.d (.int k) p),some (.d (.int k') q)=>bif Fn k k' then some (.d (.int k) (bif c then p else q)) else none
 | _,_=>match c with
  | true=>x
  | false=>y
def Qid (cur:Vr) (c:Operand) (b:Bool):Vr:=match c with
 | .tmp t=>(t,b)::cur
 | _=>cur
def Za:AV→Option (IntKind×Int)
 | .d (.int k) n=>some (k,n)
 | _=>none
def Qcc (M:List (Nat×Ob)):AV→Option Nat
 | .d (.sl _) xs=>some xs.length
 | .d .str l=>some l.length
 | .ns=>some 0
 | .z=>some 0
 | .s id=>match Qb M id with
  | some (.row _ _ xs)=>some xs.length
  | some (.tail _ _ xs)=>some xs.length
  | _=>none
 | .w _ _ n=>some n.toNat
 | _=>none
def Qcd {α:Type} (f:List Value→Option (α×List Value)):Nat→List Value→Option (List α×List Value)
 | 0,cs=>some ([],cs)
 | n+1,cs=>match f cs with
  | some (y,r)=>match Qcd f n r with
   | some (ys,r')=>some (y::ys,r')
   | none=>none
  | none=>none
def Bx:Ty→List Value→Option (AV×List Value)
 | .arr n e,cs=>match Qcd (fun cs=>match Bx e cs with
   | some (x,r)=>(match asD [] x e with
    | some y=>some (y,r)
    | none=>none)
   | none=>none) n cs with
  | some (l,r)=>some (.d (.arr n e) l,r)
  | none=>none
 | .st fs,cs=>match Bx fs cs with
  | some (l,r)=>bif l.isVal then some (.ag (.cons l .nil),r) else some (.ag l,r)
  | none=>none
 | .pr f g,cs=>match Bx f cs with
  | some (x,r)=>match Bx g r with
   | some (l,r')=>bif l.isVal then some (.cons x (.cons l .nil),r') else some (.cons x l,r')
   | none=>none
  | none=>none
 | .rose fs,cs=>match Bx fs cs with
  | some (l,.slice none 0 0::r)=>bif Qca l then some (.ag (Qth l (.cons .ns .nil)),r) else none
  | _=>none
 | .unit,cs=>some (.nil,cs)
 | _,v::cs=>match Le v with
  | some x=>some (x,cs)
  | none=>none
 | _,[]=>none
def Xr (ty:Ty) (z:Value):Option AV:=match Bx ty (Qh z) with
 | some (x,[])=>some x
 | _=>none
def Yy (S:St) (cur:Vr):List (Nat×Operand)→Option (List (Nat×AV))
 | []=>some []
 | (i,x)::xs=>match ev S cur x,Yy S cur xs with
  | some v,some r=>some ((i,v)::r)
  | _,_=>none
def Yi:TypeDesc→Option TypeId
 | .slice e=>some e
 | _=>none
def Eo:(t:Ty)→t.De→Option (List Value)
 | .int k,n=>some [.int k n]
 | .bool,b=>some [.bool b]
 | .str,s=>some [Yu s]
 | .unit,_=>some []
 | .pr f r,x=>match Eo f x.1,Eo r x.2 with
  | some a,some b=>some (a++b)
  | _,_=>none
 | .st fs,x=>Eo fs x
 | _,_=>none
def U4:AV→Option (List Value)
 | .d t x=>Eo t x
 | .ag l=>U4 l
 | .nil=>some []
 | .cons x r=>match U4 x,U4 r with
  | some a,some b=>some (a++b)
  | _,_=>none
 | _=>none
def Qkp:BinOp→Option Bool
 | .eql=>some false
 | .neq=>some true
 | _=>none
def Q9f:AV→Option Bool
 | .np=>some true
 | .p _ _=>some false
 | .e _ _=>some false
 | .a _ _=>some false
 | _=>none
def Q9g:AV→Option Bool
 | .nm=>some true
 | .m _=>some false
 | _=>none
def Q9h:AV→Option Bool
 | .nf=>some true
 | .f _ _=>some false
 | _=>none
def Q9i:AV→Bool
 | .np=>true
 | _=>false
def Q9j:AV→Bool
 | .nm=>true
 | _=>false
def Q9k:AV→Bool
 | .nf=>true
 | _=>false
def Q4w (T:Tab) (op:BinOp) (t:TypeId) (x y:AV):Option Bool:=match Qkp op,Qe T t with
 | some neg,some te=>match te.d with
  | .pointer _=>bif Q9i y then (match Q9f x with
   | some b=>some (bif neg then !b else b)
   | none=>none) else none
  | .map _ _=>bif Q9j y then (match Q9g x with
   | some b=>some (bif neg then !b else b)
   | none=>none) else none
  | .func _ _ _=>bif Q9k y then (match Q9h x with
   | some b=>some (bif neg then !b else b)
   | none=>none) else none
  | _=>none
 | _,_=>none
def By:Value→Bool
 | .agg _=>true
 | _=>false
theorem Cm {t:Ty} {v:Value} (h:t.agg=By v):(rt t).val (Qh v)=v:=by
 cases v<;>simp_all [By,RT.val,Xn,Qh]
def Qtj:Option Ob→Option (Σ k v:Ty,List (k.De×v.De))
 | some (.map k v xs)=>some ⟨k,v,xs⟩
 | some (.mapT k v _ _ _ xs none)=>some ⟨k,v,xs⟩
 | _=>none
def asLs (M:List (Nat×Ob)) (u:Ty):List (Nat×AV)→Nat→Option (List u.De)
 | [],_=>some []
 | (i,v)::l,j=>bif Nat.beq i j&&(u.agg==v.isAgg) then (match asD M v u,asLs M u l (j+1) with
  | some x,some xs=>some (x::xs)
  | _,_=>none) else none
def Im (Y:TX) (S:St) (cur:Vr):Op→Option AV
 | .move x | .assign x=>ev S cur x
 | .pick c a b=>match ev S cur c with
  | some (.d .bool v)=>Qos v (ev S (Qid cur c true) a) (ev S (Qid cur c false) b)
  | _=>none
 | .binOp op t x y _=>match ev S cur x,ev S cur y with
  | some x,some y=>match lit x,lit y with
   | some u,some v=>match La Y.T op t u v with
    | some r=>Qic r
    | none=>none
   | _,_=>match Q4w Y.T op t x y with
    | some b=>some (.d .bool b)
    | none=>match Qkp op,Qe Y.T t,U4 x,U4 y with
    | some neg,some ⟨_,.struct ⟨fs⟩,_,_,_⟩,some us,some vs=>bif E4 fs&&x.isAgg&&y.isAgg then (match N9 Y.T fs us vs with
     | some r=>some (.d .bool (bif neg then !r else r))
     | none=>none) else none
    | _,_,_,_=>none
  | _,_=>none
 | .unOp op _ x=>match ev S cur x with
  | some x=>match lit x with
   | some u=>match Qh6 op u with
    | some r=>Qic r
    | none=>none
   | none=>none
  | none=>none
 | .convert s t x=>match Qe Y.T s,Qe Y.T t,ev S cur x with
  | some ⟨_,.int _,_,_,_⟩,some ⟨_,.int k,_,_,_⟩,some (.d (.int _) n)=>some (.d (.int k) (k.wrap n))
  | _,_,_=>none
 | .field s x f=>match Qe Y.T s,ev S cur x with
  | some ⟨_,.struct fs,_,_,_⟩,some x=>match fs[f]? with
   | some fd=>match nav [.f f fd.offset] x,Qe Y.T fd.type with
    | some y,some e=>bif Nat.beq e.size y.size&&(Uw e.d==y.isAgg)&&x.isAgg&&y.isVal&&(y.isAgg||Nat.beq y.size 1) then some y else none
    | _,_=>none
   | none=>none
  | _,_=>none
 | .fieldAddr s x f=>match Qe Y.T s,ev S cur x with
  | some ⟨_,.struct fs,_,_,_⟩,some x=>match Ia Y.T fs f with
   | some off=>match x with
    | .p id path=>some (.p id (path++[.f f off]))
    | .e id path=>some (.e id (path++[.f f off]))
    | .a t y=>match nav [.f f off] (.d t y) with
     | some (.d u z)=>some (.a u z)
     | _=>none
    | _=>none
   | none=>none
  | _,_=>none
 | .load t x=>match Qe Y.T t,ev S cur x with
  | some e,some (.p id path)=>match Qb S.mem id with
   | some (.var _ c)=>match nav path c with
    | some y=>bif Nat.beq e.size y.size&&(Uw e.d==y.isAgg)&&y.isVal&&(y.isAgg||Nat.beq y.size 1) then some y else none
    | none=>none
   | _=>none
  | some e,some (.a t y)=>bif Nat.beq e.size t.size&&(Uw e.d==t.agg) then some (.d t y) else none
  | _,_=>none
 | .extract x i=>match ev S cur x with
  | some (.tp l)=>nth l i
  | _=>none
 | .call { callee:=.builtin .len,args:=⟨[x]⟩,argTypes:=⟨[t]⟩ }=>match Qe Y.T t,ev S cur x with
  | some e,some x=>match e.d with
   | .slice _=>match x with
    | .d .str _=>none
    | x=>match Qcc S.mem x with
     | some n=>some (.d (.int .i64) n)
     | none=>none
   | .string=>match x with
    | .d .str l=>some (.d (.int .i64) l.length)
    | _=>none
   | .map _ _=>match x with
    | .m id=>match Qtj (Qb S.mem id) with
     | some ⟨_,_,xs⟩=>some (.d (.int .i64) xs.length)
     | none=>none
    | .nm=>some (.d (.int .i64) (0:Nat))
    | _=>none
   | _=>none
  | _,_=>none
 | .call { callee:=.builtin .max,args:=⟨[x,y]⟩,argTypes:=_ }=>match ev S cur x,ev S cur y with
  | some x,some y=>match Za x,Za y with
   | some (k,a),some (_,b)=>some (.d (.int k) (if b>a then b else a))
   | _,_=>none
  | _,_=>none
 | .call { callee:=.builtin .min,args:=⟨[x,y]⟩,argTypes:=_ }=>match ev S cur x,ev S cur y with
  | some x,some y=>match Za x,Za y with
   | some (k,a),some (_,b)=>some (.d (.int k) (if b<a then b else a))
   | _,_=>none
  | _,_=>none
 | .call { callee:=.builtin .min,args:=⟨[x,y,x3]⟩,argTypes:=_ }=>match ev S cur x,ev S cur y,ev S cur x3 with
  | some x,some y,some x3=>match Za x,Za y,Za x3 with
   | some (k,a),some (_,b),some (_,c)=>some (.d (.int k) (if c<(if b<a then b else a) then c else (if b<a then b else a)))
   | _,_,_=>none
  | _,_,_=>none
 | .build t ⟨parts⟩=>match Qe Y.T t,Jo Y.tys t with
  | some ⟨_,.struct ⟨fs⟩,z,_,_⟩,some ty=>match Xr ty z,Ci Y.T fs,Yy S cur parts with
   | some (.ag l),some ps,some vs=>match fillP ps l vs with
    | some l'=>some (.ag l')
    | none=>none
   | _,_,_=>none
  | some ⟨_,.array _ e,z,_,_⟩,some (.arr m u)=>match Qe Y.T e,Yy S cur parts with
   | some ee,some vs=>match asLs S.mem u vs 0 with
    | some xs=>bif Nat.beq ee.size u.size&&Nat.beq xs.length m&&Nat.beq (Qh z).length (m*u.size) then some (.d (.arr m u) xs) else none
    | none=>none
   | _,_=>none
  | _,_=>none
 | .nilCheck x=>match ev S cur x with
  | some (.p id path)=>some (.p id path)
  | some (.e id path)=>some (.e id path)
  | some (.a t y)=>some (.a t y)
  | some (.f fn caps)=>some (.f fn caps)
  | _=>none
 | .makeFunc (.func f) ⟨[]⟩ ⟨caps⟩=>match evs S cur caps with
  | some l=>some (.f f l)
  | none=>none
 | .lookup t x ix c=>match Qe Y.T t,ev S cur x,ev S cur ix with
  | some te,some (.m id),some iv=>match te.d,Qtj (Qb S.mem id) with
   | .map kt et,some ⟨k,v,xs⟩=>match Qe Y.T kt,Qe Y.T et,asD [] iv k with
    | some tk,some tz,some key=>match Xr v tz.z with
     | some za=>match asD [] za v with
      | some z=>bif Ys Y.T k tk.d&&(k.agg==iv.isAgg)&&(v.agg==By tz.z) then some (match c with
       | true=>.tp (.cons (.d v ((Qx key xs).getD z)) (.cons (.d .bool (Qx key xs).isSome) .nil))
       | false=>.d v ((Qx key xs).getD z)) else none
      | none=>none
     | none=>none
    | _,_,_=>none
   | _,_=>none
  | _,_,_=>none
 | _=>none
where
 fillP (ps:List (Nat×Nat)) (l:AV):List (Nat×AV)→Option AV
 | []=>some l
 | (i,x)::r=>match ps[i]? with
  | some (off,size)=>match V7 (fun c=>bif Il c x then some x else none) l i with
   | some (l',o)=>bif Nat.beq o off&&Nat.beq x.size size then fillP ps l' r else none
   | none=>none
  | none=>none
section
variable {β:Nat→Nat} {ρ:Nat→Value} {ok:Ok} {w:World}
theorem Qf2 {x:AV} {v:Value} (h:lit x=some v) {cs:List Value} (hc:cr β ρ ok w false x cs):x.val cs=v:=by
 unfold lit at h
 split at h<;>first | (simp at h; done) | skip
 all_goals
  simp only [Option.some.injEq] at h
  subst h
  have hc':cs=_:=hc
  subst hc'
  rfl
theorem Qce {x:AV} {v:Value} (h:Qic v=some x):∃cs,v=x.val cs∧cr β ρ ok w false x cs:=by
 unfold Qic at h
 split at h<;>first | (simp at h; done) | skip
 all_goals
  simp only [Option.some.injEq] at h
  subst h
  exact ⟨_,rfl,rfl⟩
theorem Qot:∀{l:AV} {k:Nat} {x:AV} {vs:List Value},nth l k=some x→cr β ρ ok w true l vs→∃cs,vs[k]?=some (x.val cs)∧cr β ρ ok w false x cs
 | .cons x r,0,y,vs,h,⟨c1,vs',h1,h2,h3⟩=>by
  simp [nth] at h; subst h; subst h1
  exact ⟨c1,rfl,h2⟩
 | .cons x r,k+1,y,vs,h,⟨c1,vs',h1,h2,h3⟩=>by
  subst h1
  obtain ⟨c2,h4,h5⟩:=Qot (l:=r) (k:=k) (x:=y) (by simpa only [nth] using h) h3
  exact ⟨c2,by simpa using h4,h5⟩
 | .d ..,_,_,_,h,_=>by simp [nth] at h
 | .p ..,_,_,_,h,_=>by simp [nth] at h
 | .e ..,_,_,_,h,_=>by simp [nth] at h
 | .s ..,_,_,_,h,_=>by simp [nth] at h
 | .m ..,_,_,_,h,_=>by simp [nth] at h
 | .b ..,_,_,_,h,_=>by simp [nth] at h
 | .w ..,_,_,_,h,_=>by simp [nth] at h
 | .a ..,_,_,_,h,_=>by simp [nth] at h
 | .z,_,_,_,h,_=>by simp [nth] at h
 | .ns,_,_,_,h,_=>by simp [nth] at h
 | .np,_,_,_,h,_=>by simp [nth] at h
 | .nm,_,_,_,h,_=>by simp [nth] at h
 | .nf,_,_,_,h,_=>by simp [nth] at h
 | .f ..,_,_,_,h,_=>by simp [nth] at h
 | .ag ..,_,_,_,h,_=>by simp [nth] at h
 | .tp ..,_,_,_,h,_=>by simp [nth] at h
 | .nil,_,_,_,h,_=>by simp [nth] at h
theorem Gf {x:AV} {k:IntKind} {n:Int} (h:Za x=some (k,n)):x=.d (.int k) n:=by
 unfold Za at h
 split at h
 ·simp at h; obtain ⟨rfl,rfl⟩:=h; rfl
 ·cases h
theorem Qtk {M:List (Nat×Ob)} (hM:∀id o,Qb M id=some o→(Qp β ρ id o).p ok w) {x:AV} {n:Nat} {cs:List Value} (h:Qcc M x=some n) (hs:∀l,x≠.d .str l) (hc:cr β ρ ok w false x cs) :
  ∃A c,x.val cs=.slice A n c:=by
 cases x with
 | d t y =>
  cases t<;>simp [Qcc] at h
  ·exact absurd rfl (hs _)
  ·subst h
   obtain ⟨v,rfl,A,m,c,rfl,rfl,_⟩:=hc
   exact ⟨A,c,rfl⟩
 | s id =>
  simp only [Qcc] at h
  obtain ⟨⟨v,rfl,hz⟩,A,m,c,hv⟩:=hc
  suffices hm:m=n by
   subst hm
   rcases hz with rfl | ⟨h0,A',rfl⟩
   ·exact ⟨A,c,hv⟩
   ·rw [hv] at h0
    injection h0 with _ h1
    exact ⟨A',0,by rw [h1]; rfl⟩
  split at h<;>first | (simp at h; done) | skip
  ·rename_i ho
   simp at h; subst h
   have:=(hM _ _ ho).1
   rw [hv] at this
   exact this
  ·rename_i ho
   simp at h; subst h
   have:=(hM _ _ ho).1
   rw [hv] at this
   obtain ⟨A',c',h1,_⟩:=E3 this
   injection h1 with h1 h2 h3
 | ns=>simp [Qcc] at h; subst h; have:cs=_:=hc; subst this; exact ⟨_,_,rfl⟩
 | w id j m=>simp [Qcc] at h; subst h; obtain ⟨A,c,rfl,_⟩:=hc; exact ⟨_,_,rfl⟩
 | z=>simp [Qcc] at h; subst h; obtain ⟨A,rfl⟩:=hc; exact ⟨_,_,rfl⟩
 | _=>simp [Qcc] at h
theorem Qcf {τ:Type} {r:RT τ} {f:List Value→Option (τ×List Value)} (hf:∀{cs r':List Value} {y:τ},f cs=some (y,r')→∃c1,cs=c1++r'∧r.rep ok w y c1) :
  ∀{n:Nat} {cs r':List Value} {ys:List τ},Qcd f n cs=some (ys,r')→∃c1,cs=c1++r'∧ys.length=n∧Zz r ok w ys c1
 | 0,cs,r',ys,h=>by simp [Qcd] at h; obtain ⟨rfl,rfl⟩:=h; exact ⟨[],rfl,rfl,rfl⟩
 | n+1,cs,r',ys,h=>by
  simp only [Qcd] at h
  split at h
  ·rename_i y r1 h1
   split at h
   ·rename_i ys' r2 h2
    simp at h; obtain ⟨rfl,rfl⟩:=h
    obtain ⟨c1,rfl,p1⟩:=hf h1
    obtain ⟨c2,rfl,p2,p3⟩:=Qcf hf h2
    exact ⟨c1++c2,by simp,by simp [p2],c1,c2,rfl,p1,p3⟩
   ·cases h
  ·cases h
theorem Cn:∀{ty:Ty} {cs r:List Value} {x:AV},Bx ty cs=some (x,r)→∃c1,cs=c1++r∧cr β ρ ok w false x c1
 | .st fs,cs,r,x,h=>by
  simp only [Bx] at h
  split at h
  ·rename_i l r' hl
   obtain ⟨c1,h1,h2⟩:=Cn hl
   cases hv:l.isVal with
   | true =>
    rw [hv] at h
    simp at h; obtain ⟨rfl,rfl⟩:=h
    exact ⟨c1,h1,c1,[],by simp,h2,rfl⟩
   | false =>
    rw [hv] at h
    simp at h; obtain ⟨rfl,rfl⟩:=h
    exact ⟨c1,h1,h2⟩
  ·cases h
 | .rose fs,cs,r,x,h=>by
  simp only [Bx] at h
  split at h
  ·rename_i l r' hl
   cases hb:Qca l with
   | false=>rw [hb] at h; cases h
   | true =>
    rw [hb] at h
    simp at h; obtain ⟨rfl,rfl⟩:=h
    obtain ⟨c1,h1,h2⟩:=Cn hl
    refine ⟨c1++[.slice none 0 0],by rw [h1]; simp,Qak hb h2 ?_⟩
    exact ⟨[.slice none 0 0],[],rfl,rfl,rfl⟩
  ·cases h
 | .pr f g,cs,r,x,h=>by
  simp only [Bx] at h
  split at h
  ·rename_i y r1 h1
   split at h
   ·rename_i l r2 h2
    obtain ⟨c1,rfl,hc1⟩:=Cn h1
    obtain ⟨c2,rfl,hc2⟩:=Cn h2
    cases hv:l.isVal with
    | true =>
     rw [hv] at h
     simp at h; obtain ⟨rfl,rfl⟩:=h
     exact ⟨c1++c2,by simp,c1,c2,rfl,hc1,c2,[],by simp,hc2,rfl⟩
    | false =>
     rw [hv] at h
     simp at h; obtain ⟨rfl,rfl⟩:=h
     exact ⟨c1++c2,by simp,c1,c2,rfl,hc1,hc2⟩
   ·cases h
  ·cases h
 | .unit,cs,r,x,h=>by
  simp [Bx] at h; obtain ⟨rfl,rfl⟩:=h
  exact ⟨[],rfl,rfl⟩
 | .int k,cs,r,x,h=>nest1 (by cases cs<;>(simp only [Bx] at h; exact h))
 | .bool,cs,r,x,h=>nest1 (by cases cs<;>(simp only [Bx] at h; exact h))
 | .str,cs,r,x,h=>nest1 (by cases cs<;>(simp only [Bx] at h; exact h))
 | .sl e,cs,r,x,h=>nest1 (by cases cs<;>(simp only [Bx] at h; exact h))
 | .ref,cs,r,x,h=>nest1 (by cases cs<;>(simp only [Bx] at h; exact h))
 | .arr n e,cs,r,x,h=>by
  simp only [Bx] at h
  split at h
  ·rename_i l r' hl
   simp at h; obtain ⟨rfl,rfl⟩:=h
   obtain ⟨c1,h1,h2,h3⟩:=Qcf (r:=rt e) (ok:=ok) (w:=w) (fun {cs r' y} hf=>by
    split at hf
    ·rename_i x r1 hx
     split at hf
     ·rename_i y' hy
      simp at hf; obtain ⟨rfl,rfl⟩:=hf
      obtain ⟨c1,p1,p2⟩:=Cn hx
      exact ⟨c1,p1,V8 (M:=[]) (by simp [Qb]) hy p2⟩
     ·cases hf
    ·cases hf) hl
   exact ⟨c1,h1,h2,h3⟩
  ·cases h
where
 nest1 {cs r:List Value} {x:AV} (h:(match cs with
  | v::cs=>match Le v with
   | some x=>some (x,cs)
   | none=>none
  | []=>none)=some (x,r)):∃c1,cs=c1++r∧cr β ρ ok w false x c1:=by
  cases cs with
  | nil=>cases h
  | cons v cs =>
   simp only at h
   split at h
   ·rename_i y hy
    simp at h; obtain ⟨rfl,rfl⟩:=h
    exact ⟨[v],rfl,(Lf hy).1⟩
   ·cases h
theorem K2 {ty:Ty} {z:Value} {x:AV} (h:Xr ty z=some x):cr β ρ ok w false x (Qh z):=by
 unfold Xr at h
 split at h
 ·rename_i y hy
  simp at h; subst h
  obtain ⟨c1,h1,h2⟩:=Cn hy
  rw [h1,List.append_nil]; exact h2
 ·cases h
inductive Qkq {α β:Type} (R:α→β→Prop):List α→List β→Prop
 | nil:Qkq R [] []
 | cons {a:α} {b:β} {l:List α} {m:List β} (h:R a b) (t:Qkq R l m):Qkq R (a::l) (b::m)
theorem Qcg (ps:List (Nat×Nat)):∀{vs:List (Nat×AV)} {us:List (Nat×Value)} {l l':AV} {cs:List Value},Im.fillP ps l vs=some l' →
  cr β ρ ok w false l cs→Qkq (fun (p:Nat×AV) (q:Nat×Value)=>p.1=q.1∧∃c,q.2=p.2.val c∧cr β ρ ok w false p.2 c) vs us →
  ∃cs',G1 (fun i=>ps[i]?) cs us=some cs'∧cr β ρ ok w false l' cs'
 | [],_,l,l',cs,h,hc,.nil=>by simp [Im.fillP] at h; subst h; exact ⟨cs,rfl,hc⟩
 | (i,x)::vs,_,l,l',cs,h,hc,@Qkq.cons _ _ _ _ q _ us hq hr=>by
  obtain ⟨j,v⟩:=q
  obtain ⟨rfl,c,hv,hcx⟩:=hq
  simp only at hv hcx
  simp only [Im.fillP] at h
  split at h
  ·rename_i off size hp
   split at h
   ·rename_i l1 o hu
    cases hb:(Nat.beq o off&&Nat.beq x.size size) with
    | false=>rw [hb] at h; cases h
    | true =>
     rw [hb] at h
     simp only [Bool.and_eq_true] at hb
     have e1:=Nat.eq_of_beq_eq_true hb.1
     have e2:=Nat.eq_of_beq_eq_true hb.2
     subst e1; subst e2
     simp only [cond_true] at h
     have hg:∀{c0 c':AV} {cs0:List Value},(fun c0=>bif Il c0 x then some x else none) c0=some c'→cr β ρ ok w false c0 cs0 →
       cr β ρ ok w false c' (cs0.take 0++c++cs0.drop (0+c.length))∧0+c.length≤cs0.length:=by
      intro c0 c' cs0 h1 h2
      have:=Wa (β:=β) (ρ:=ρ) (ok:=ok) (w:=w) (new:=x) (ds:=c) hcx (ps:=[]) (cur:=c0) (av':=c') (by simpa [Be] using h1) h2
      simpa [Jp] using this
     have hx:x.inMem=true∧x.isVal=true:=by
      have:∃c0,Il c0 x=true:=by
       clear hr hc hp h hb hg
       induction l generalizing i l1 o with
       | cons y r _ ihr =>
        cases i with
        | zero =>
         simp only [V7] at hu
         cases hk:Il y x with
         | true=>exact ⟨y,hk⟩
         | false=>rw [hk] at hu; simp at hu
        | succ i =>
         simp only [V7] at hu
         split at hu
         ·rename_i r' o' hr
          exact ihr _ _ _ hr
         ·cases hu
       | _=>simp [V7] at hu
      obtain ⟨c0,hc0⟩:=this
      simp only [Il,Bool.and_eq_true] at hc0
      exact ⟨hc0.1.1.2,hc0.1.2⟩
     obtain ⟨h3,h4⟩:=Lh (off:=0) (ds:=c) hg hu hc
     have hcl:Qh v=c:=by rw [hv]; exact Z3 hcx hx.2 hx.1
     have hlen:=Ur hcx
     obtain ⟨cs',h5,h6⟩:=Qcg ps h h3 hr
     refine ⟨cs',?_,h6⟩
     simp only [G1,hp,hcl]
     have hb':(Nat.beq c.length x.size&&Nat.ble (o+c.length) cs.length)=true:=by
      simp only [Bool.and_eq_true]
      exact ⟨by rw [hlen]; exact Nat.beq_refl _,Nat.ble_eq_true_of_le (by omega)⟩
     rw [hb']
     simp only [cond_true,Qbw]
     simpa using h5
   ·cases h
  ·cases h
end
end Gx
