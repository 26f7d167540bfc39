/- Abstract states. -/
import Derived.Test.YtbhpbpilmejnlaaGreatGAppend
import Derived.MapKept
namespace Gx
open Go Go.RowKit Gd
set_option linter.unusedVariables false
set_option linter.unusedSimpArgs false
inductive Ob where
 | var (tid:TypeId) (c:AV)
 | row (e:TypeId) (t:Ty) (xs:List t.De)
 | tail (e:TypeId) (t:Ty) (xs:List t.De)
 | map (k v:Ty) (xs:List (k.De×v.De))
 | mapT (k v:Ty) (path:List PS) (e:TypeId) (u:Ty) (xs:List (k.De×v.De)) (hole:Option (k.De×Nat))
 | mapO (k:Ty) (xs:List (k.De×Unit)) (last:Option (k.De×Nat))
def slF:(fs:Ty)→Nat→Option (Σ t:Ty,(fs.De→t.De)×Nat)
 | .pr f _,0=>some ⟨f,fun x=>x.1,0⟩
 | .pr f r,k+1=>match slF r k with
  | some ⟨t,g,o⟩=>some ⟨t,fun x=>g x.2,f.size+o⟩
  | none=>none
 | .int k,0=>some ⟨.int k,fun x=>x,0⟩
 | .bool,0=>some ⟨.bool,fun x=>x,0⟩
 | .str,0=>some ⟨.str,fun x=>x,0⟩
 | .sl e,0=>some ⟨.sl e,fun x=>x,0⟩
 | .arr n e,0=>some ⟨.arr n e,fun x=>x,0⟩
 | .st fs,0=>some ⟨.st fs,fun x=>x,0⟩
 | _,_=>none
def Rk:(v:Ty)→List PS→Option (Σ u:Ty,v.De→List u.De)
 | .sl u,[]=>some ⟨u,fun x=>x⟩
 | .st fs,.f k off::ps=>match slF fs k with
  | some ⟨t,g,o⟩=>bif Nat.beq o off then (match Rk t ps with
   | some ⟨u,f⟩=>some ⟨u,fun x=>f (g x)⟩
   | none=>none) else none
  | none=>none
 | _,_=>none
def G0 (β:Nat→Nat) (ρ:Nat→Value) (g:Nat) (tid:TypeId) (c:AV):TL where
 blks:=fun b=>b=g
 cov:=fun b _=>b=g
 cb:=fun h=>h
 p:=fun ok w=>∃cs,w.heap[g]?=some (.cells cs.toArray tid (0,0))∧cr β ρ ok w false c cs
 keep:=fun ⟨cs,h1,h2⟩ hb he=>⟨cs,by rw [hb _ rfl]; exact h1,We h2 he⟩
 weak:=fun ⟨cs,h1,h2⟩ hk=>⟨cs,h1,V1 h2 hk⟩
 lt:=fun ⟨_,h,_⟩ b hb=>by subst hb; exact Vg h
def Um {τ:Type} (v:Value) (e:Nat) (r:RT τ) (xs:List τ):TL where
 blks:=fun g=>v.ownBlock=some g
 cov:=fun b o=>v.ownBlock=some b∧Ur v*r.size≤o
 cb:=fun h=>h.1
 p:=fun ok w=>isV (rSl r) ok w xs v∧∃ys,w.ownsRowS 0 e r.size v (Ur v) ys
 keep:=fun ⟨h1,ys,h⟩ hb he=>⟨h1.evo he,ys,Hp h hb⟩
 weak:=fun ⟨h1,h⟩ hk=>⟨h1.weak hk,h⟩
 lt:=fun ⟨_,_,h⟩ g hg=>(h.lt g hg).2
def Wf {κ ν:Type} (r:RT κ) (s:RT ν) (ok:Ok) (w:World):List (κ×ν)→List MapEntry→Prop
 | [],es=>es=[]
 | x::xs,es=>∃e es',es=e::es'∧isV r ok w x.1 e.key∧isV s ok w x.2 e.val∧Wf r s ok w xs es'
theorem Ef {κ ν:Type} {r:RT κ} {s:RT ν} {ok:Ok} {w w':World}:∀{xs:List (κ×ν)} {es:List MapEntry},Wf r s ok w xs es→Evo ok w w'→Wf r s ok w' xs es
 | [],_,h,_=>h
 | x::xs,es,⟨e,es',h,h1,h2,h3⟩,he=>⟨e,es',h,h1.evo he,h2.evo he,Ef h3 he⟩
theorem Xf {κ ν:Type} {r:RT κ} {s:RT ν} {ok ok':Ok} {w:World}:∀{xs:List (κ×ν)} {es:List MapEntry},Wf r s ok w xs es→(∀b o,ok b o→ok' b o)→Wf r s ok' w xs es
 | [],_,h,_=>h
 | x::xs,es,⟨e,es',h,h1,h2,h3⟩,he=>⟨e,es',h,h1.weak he,h2.weak he,Xf h3 he⟩
def Lf {κ ν:Type} (g:Nat) (r:RT κ) (s:RT ν) (xs:List (κ×ν)):TL where
 blks:=fun b=>b=g
 cov:=fun b _=>b=g
 cb:=fun h=>h
 p:=fun ok w=>∃es clock,w.heap[g]?=some (.map es clock)∧Wf r s ok w xs es.toList∧(xs.map Prod.fst).Nodup∧(es.toList.map MapEntry.born).Nodup∧∀e∈es.toList,e.born<clock
 keep:=fun ⟨es,c,h1,h2,h3⟩ hb he=>⟨es,c,by rw [hb _ rfl]; exact h1,Ef h2 he,h3⟩
 weak:=fun ⟨es,c,h1,h2,h3⟩ hk=>⟨es,c,h1,Xf h2 hk,h3⟩
 lt:=fun ⟨_,_,h,_⟩ b hb=>by subst hb; exact Vg h
def Hr {κ ν τ:Type} (r:RT κ) (s:RT ν) (u:RT τ) (e off:Nat) (f:ν→List τ) (hole:Option κ) (hv:Value) (ok:Ok) (w:World):List (κ×ν)→List MapEntry→List Value→Prop
 | [],[],[]=>True
 | x::xs,en::es,v::vs=>isV r ok w x.1 en.key∧isV s ok w x.2 en.val ∧
  ((hole=some x.1∧v=undef∧∃c,(Qm en.val)[off]?=some c∧zal c hv)∨(hole≠some x.1∧(∃c,(Qm en.val)[off]?=some c∧zal c v)∧∃ys,w.ownsRowS 0 e u.size v (Ur v) ys))∧Hr r s u e off f hole hv ok w xs es vs
 | _,_,_=>False
section
variable {κ ν τ:Type} {r:RT κ} {s:RT ν} {u:RT τ} {e off:Nat} {f:ν→List τ} {hole:Option κ} {hv:Value} {ok ok':Ok} {w w':World}
theorem Sz:∀{xs:List (κ×ν)} {es:List MapEntry} {vs:List Value},Hr r s u e off f hole hv ok w xs es vs→(∀v∈vs,∀b,v.ownBlock=some b→w'.heap[b]?=w.heap[b]?)→Evo ok w w'→Hr r s u e off f hole hv ok w' xs es vs
 | [],[],[],h,_,_=>h
 | x::xs,en::es,v::vs,⟨h1,h2,h3,h4⟩,hb,he=>⟨h1.evo he,h2.evo he,h3.imp id fun ⟨q1,q2,ys,q3⟩=>⟨q1,q2,ys,Hp q3 (hb v (.head _))⟩,Sz h4 (fun v hv=>hb v (.tail _ hv)) he⟩
 | [],[],_::_,h,_,_=>h.elim
 | [],_::_,_,h,_,_=>h.elim
 | _::_,[],_,h,_,_=>h.elim
 | _::_,_::_,[],h,_,_=>h.elim
theorem In:∀{xs:List (κ×ν)} {es:List MapEntry} {vs:List Value},Hr r s u e off f hole hv ok w xs es vs→(∀b o,ok b o→ok' b o)→Hr r s u e off f hole hv ok' w xs es vs
 | [],[],[],h,_=>h
 | x::xs,en::es,v::vs,⟨h1,h2,h3,h4⟩,hk=>⟨h1.weak hk,h2.weak hk,h3,In h4 hk⟩
 | [],[],_::_,h,_=>h.elim
 | [],_::_,_,h,_=>h.elim
 | _::_,[],_,h,_=>h.elim
 | _::_,_::_,[],h,_=>h.elim
theorem Qmj:∀{xs:List (κ×ν)} {es:List MapEntry} {vs:List Value},Hr r s u e off f hole hv ok w xs es vs→∀v∈vs,∀b,v.ownBlock=some b→b<w.heap.size
 | [],[],[],h=>by simp
 | x::xs,en::es,v::vs,⟨h1,h2,h3,h4⟩=>by
  intro y hy b hb
  rcases List.mem_cons.1 hy with rfl | hy
  ·rcases h3 with ⟨_,rfl,_⟩ | ⟨_,_,ys,h3⟩
   ·cases hb
   ·exact (h3.lt b hb).2
  ·exact Qmj h4 y hy b hb
 | [],[],_::_,h=>h.elim
 | [],_::_,_,h=>h.elim
 | _::_,[],_,h=>h.elim
 | _::_,_::_,[],h=>h.elim
end
def Rl:Value→List Value
 | .tuple vs=>vs.toList
 | _=>[]
def Jkh {κ ν τ:Type} (g:Nat) (r:RT κ) (s:RT ν) (u:RT τ) (e off:Nat) (f:ν→List τ) (vs:List Value) (xs:List (κ×ν)) (hole:Option κ) (hv:Value) (ok:Ok) (w:World):Prop :=
 ∃es clock,w.heap[g]?=some (.map es clock)∧Hr r s u e off f hole hv ok w xs es.toList vs∧(xs.map Prod.fst).Nodup∧((es.toList.map MapEntry.born).Nodup∧∀e∈es.toList,e.born<clock) ∧
  (vs.Pairwise fun a b=>∀g,a.ownBlock=some g→b.ownBlock≠some g)∧(∀v∈vs,v.ownBlock≠some g)∧∀k,hole=some k→k∉xs.map Prod.fst→hv=.slice none 0 0
def Bc (g:Nat) (vs:List Value) {κ ν:Type} (r:RT κ) (s:RT ν) (u:Ty) (e off:Nat) (fo:Option (Σ u:Ty,ν→List u.De)) (xs:List (κ×ν)) (hole:Option κ) (hv:Value):TL where
 blks:=fun b=>b=g∨∃v∈vs,v.ownBlock=some b
 cov:=fun b o=>b=g∨∃v∈vs,v.ownBlock=some b∧Ur v*(rt u).size≤o
 cb:=fun h=>h.imp id fun ⟨v,h1,h2,_⟩=>⟨v,h1,h2⟩
 p:=fun ok w=>∃f,fo=some ⟨u,f⟩∧Jkh g r s (rt u) e off f vs xs hole hv ok w
 keep:=fun ⟨f,hf,es,c,h1,h2,h3⟩ hb he=>⟨f,hf,es,c,by rw [hb _ (.inl rfl)]; exact h1,Sz h2 (fun v hv b hvb=>hb b (.inr ⟨v,hv,hvb⟩)) he,h3⟩
 weak:=fun ⟨f,hf,es,c,h1,h2,h3⟩ hk=>⟨f,hf,es,c,h1,In h2 hk,h3⟩
 lt:=fun ⟨_,_,_,_,h,h2,_⟩ b hb=>by
  rcases hb with rfl | ⟨v,hv,hb⟩
  ·exact Vg h
  ·exact Qmj h2 v hv b hb
def Jbu {k:Ty} (hole:Option (k.De×Nat)):Option k.De:=match hole with
 | some q=>some q.1
 | none=>none
def Ca {k:Ty} (ρ:Nat→Value) (hole:Option (k.De×Nat)):Value:=match hole with
 | some q=>ρ q.2
 | none=>undef
def Qpz:RT (Option Nat) where
 size:=1
 agg:=false
 rep:=fun _ _ b cs=>cs=[.map b]
 len:=fun h=>by rw [h]; rfl
 one:=fun _=>rfl
 flat:=fun h c hc=>by rw [h] at hc; simp at hc; subst hc; rfl
 evo:=fun h _=>h
 weak:=fun h _=>h
def Qsy (g:Nat) (k:Ty) (xs:List (k.De×Unit)) (last:Option (k.De×Nat)):TL where
 blks:=fun b=>b=g
 cov:=fun b _=>b=g
 cb:=fun h=>h
 p:=fun ok w=>∃xs':List (k.De×Option Nat),(Lf g (rt k) Qpz xs').p ok w∧xs'.map (fun q=>(q.1,()))=xs∧∀q,last=some q→(q.1,some q.2)∈xs'
 keep:=fun ⟨xs',h1,h2⟩ hb he=>⟨xs',(Lf g (rt k) Qpz xs').keep h1 hb he,h2⟩
 weak:=fun ⟨xs',h1,h2⟩ hk=>⟨xs',(Lf g (rt k) Qpz xs').weak h1 hk,h2⟩
 lt:=fun ⟨xs',h1,_⟩=>(Lf g (rt k) Qpz xs').lt h1
def Cb {k:Ty} (β:Nat→Nat) (last:Option (k.De×Nat)):Option (k.De×Nat):=last.map fun q=>(q.1,β q.2)
def Q2 (β:Nat→Nat) (ρ:Nat→Value) (id:Nat):Ob→TL
 | .var tid c=>G0 β ρ (β id) tid c
 | .row e t xs=>ml (ρ id) e (rt t) xs
 | .tail e t xs=>Um (ρ id) e (rt t) xs
 | .map k v xs=>Lf (β id) (rt k) (rt v) xs
 | .mapT k v path e u xs hole=>Bc (β id) (Rl (ρ id)) (rt k) (rt v) u e (J4 path) (Rk v path) xs (Jbu hole) (Ca ρ hole)
 | .mapO k xs last=>Qsy (β id) k xs (Cb β last)
abbrev Vy:=List (Nat×Bool)
structure En where
 t:Nat
 cs:Vy
 av:AV
structure St where
 env:List En
 mem:List (Nat×Ob)
def Ye (a:Act) (cs:Vy):Prop:=∀c∈cs,a.tmps[c.1]?=some (.bool c.2)
def rd (a:Act) (t:Nat):Option Value:=bif Nat.blt t 100000 then a.tmps[t]? else some (.pointer (some ⟨t - 100000,0,none⟩))
theorem Xq {a:Act} {t:Nat} (h:Nat.blt t 100000=true):rd a t=a.tmps[t]?:=by unfold rd; rw [h]; rfl
def enD (β:Nat→Nat) (ρ:Nat→Value) (a:Act) (e:En):DF where
 p:=fun ok w=>(Ye a e.cs→∃cs,rd a e.t=some (e.av.val cs)∧cr β ρ ok w false e.av cs)∧(Ye a e.cs∨rd a e.t=some undef)
 evo:=fun h he=>⟨fun hc=>let ⟨cs,h1,h2⟩:=h.1 hc; ⟨cs,h1,We h2 he⟩,h.2⟩
 weak:=fun h hk=>⟨fun hc=>let ⟨cs,h1,h2⟩:=h.1 hc; ⟨cs,h1,V1 h2 hk⟩,h.2⟩
abbrev Qf (β:Nat→Nat) (ρ:Nat→Value) (mem:List (Nat×Ob)):List TL:=mem.map fun q=>Q2 β ρ q.1 q.2
abbrev okR (X:Cx) (β:Nat→Nat) (ρ:Nat→Value) (mem:List (Nat×Ob)) (w:World):Ok:=Jh X.ok X.w.heap.size (fun _=>0) [] (Qf β ρ mem) w
def Rel (X:Cx) (β:Nat→Nat) (ρ:Nat→Value) (S:St) (a:Act) (w:World):Prop :=
 Sb (fun _=>0) X [] (S.env.map (enD β ρ a)) [] (Qf β ρ S.mem) a w
def Og:List En→Nat→Option En
 | [],_=>none
 | e::l,t=>bif Nat.beq e.t t then some e else Og l t
theorem Oh {l:List En} {t:Nat} {e:En} (h:Og l t=some e):e∈l∧e.t=t:=by
 induction l with
 | nil=>simp [Og] at h
 | cons x l ih =>
  simp only [Og] at h
  cases hb:Nat.beq x.t t with
  | true=>rw [hb] at h; simp only [cond_true,Option.some.injEq] at h; subst h; exact ⟨.head _,Nat.eq_of_beq_eq_true hb⟩
  | false=>rw [hb] at h; exact ⟨.tail _ (ih h).1,(ih h).2⟩
def Zw (l:List En) (t:Nat):Option En:=bif Nat.blt t 100000 then Og l t else none
theorem Aa {l:List En} {t:Nat} {e:En} (h:Zw l t=some e):Nat.blt t 100000=true:=by
 unfold Zw at h
 cases hb:Nat.blt t 100000 with
 | true=>rfl
 | false=>rw [hb] at h; cases h
theorem Uh {l:List En} {t:Nat} {e:En} (h:Zw l t=some e):e∈l∧e.t=t:=by
 have hb:=Aa h
 unfold Zw at h
 rw [hb] at h
 exact Oh h
theorem S5 {l:List En} {t:Nat} {e:En} (h:Zw l t=some e) (a:Act):rd a e.t=a.tmps[e.t]?:=Xq (by rw [(Uh h).2]; exact Aa h)
def Jki (l:List En) (g:Nat):Option En:=Og l (100000+g)
theorem Qj6 (a:Act) (g:Nat):rd a (100000+g)=some (.pointer (some ⟨g,0,none⟩)):=by
 unfold rd
 have:Nat.blt (100000+g) 100000=false:=by
  cases hb:Nat.blt (100000+g) 100000 with
  | false=>rfl
  | true=>exact absurd (Nat.le_of_ble_eq_true hb) (by omega)
 rw [this]
 simp
def Qyp:Vy→Nat×Bool→Bool
 | [],_=>false
 | (t,b)::l,c=>(Nat.beq t c.1&&(b==c.2))||Qyp l c
theorem Qmk:∀{l:Vy} {c:Nat×Bool},Qyp l c=true→c∈l
 | (t,b)::l,(u,v),h=>by
  simp only [Qyp,Bool.or_eq_true,Bool.and_eq_true] at h
  rcases h with ⟨h1,h2⟩ | h
  ·have:=Nat.eq_of_beq_eq_true h1
   simp only [beq_iff_eq] at h2
   subst this; subst h2; exact .head _
  ·exact .tail _ (Qmk h)
def Qdk:Vy→Vy→Bool
 | [],_=>true
 | c::l,cur=>Qyp cur c&&Qdk l cur
theorem Bd:∀{l cur:Vy} {a:Act},Qdk l cur=true→Ye a cur→Ye a l
 | [],cur,a,_,_=>by intro c hc; cases hc
 | c::l,cur,a,h,hc=>by
  simp only [Qdk,Bool.and_eq_true] at h
  intro x hx
  rcases List.mem_cons.1 hx with rfl | hx
  ·exact hc _ (Qmk h.1)
  ·exact Bd h.2 hc x hx
def Oi:Value→Option AV
 | .int k n=>some (.d (.int k) n)
 | .bool b=>some (.d .bool b)
 | .string ⟨⟨l⟩⟩=>some (.d .str l)
 | .slice none 0 0=>some .ns
 | .pointer none=>some .np
 | .map none=>some .nm
 | .nilFunc=>some .nf
 | _=>none
def S6:List Value→Option AV
 | []=>some .nil
 | v::l=>match Oi v,S6 l with
  | some x,some r=>some (.cons x r)
  | _,_=>none
def Qdl:Value→Option AV
 | .agg ⟨l⟩=>match S6 l with
  | some r=>some (.ag r)
  | none=>none
 | v=>Oi v
section
variable {β:Nat→Nat} {ρ:Nat→Value} {ok:Ok} {w:World}
theorem Oj {v:Value} {x:AV} (h:Oi v=some x):cr β ρ ok w false x [v]∧x.val [v]=v:=by
 unfold Oi at h
 split at h<;>first | (simp at h; done) | skip
 all_goals
  simp only [Option.some.injEq] at h
  subst h
  exact ⟨rfl,rfl⟩
theorem Qb5:∀{l:List Value} {x:AV},S6 l=some x→cr β ρ ok w false x l
 | [],x,h=>by simp [S6] at h; subst h; rfl
 | v::l,x,h=>by
  simp only [S6] at h
  split at h
  ·rename_i y r h1 h2
   simp at h; subst h
   exact ⟨[v],l,rfl,(Oj h1).1,Qb5 h2⟩
  ·cases h
theorem S7 {v:Value} {x:AV} (h:Qdl v=some x):∃cs,v=x.val cs∧cr β ρ ok w false x cs:=by
 unfold Qdl at h
 split at h
 ·rename_i l
  split at h
  ·rename_i r hr
   simp at h; subst h
   exact ⟨l,rfl,Qb5 (x:=r) hr⟩
  ·cases h
 ·obtain ⟨h1,h2⟩:=Oj (β:=β) (ρ:=ρ) (ok:=ok) (w:=w) h
  exact ⟨_,h2.symm,h1⟩
end
def ev (S:St) (cur:Vy):Operand→Option AV
 | .tmp t=>match Zw S.env t with
  | some e=>bif Qdk e.cs cur then some e.av else none
  | none=>none
 | .const v=>Qdl v
 | .func f=>some (.f f .nil)
 | .global g=>match Jki S.env g with
  | some e=>bif Qdk e.cs cur then some e.av else none
  | none=>none
def Cc (t:Nat):Vy→Bool
 | []=>false
 | c::l=>Nat.beq c.1 t||Cc t l
theorem Df {t:Nat}:∀{l:Vy},Cc t l=false→∀c∈l,c.1≠t
 | [],_,c,hc=>by cases hc
 | d::l,h,c,hc=>by
  simp only [Cc,Bool.or_eq_false_iff] at h
  rcases List.mem_cons.1 hc with rfl | hc
  ·intro e; rw [e] at h; simp [Nat.beq_refl] at h
  ·exact Df h.2 c hc
def Yu:List En→Nat→List En
 | [],_=>[]
 | e::l,t=>bif Nat.beq e.t t||Cc t e.cs then Yu l t else e::Yu l t
theorem Wg {l:List En} {t:Nat} {e:En} (h:e∈Yu l t):e∈l∧e.t≠t∧∀c∈e.cs,c.1≠t:=by
 induction l with
 | nil=>simp [Yu] at h
 | cons x l ih =>
  simp only [Yu] at h
  cases hb:(Nat.beq x.t t||Cc t x.cs) with
  | true=>rw [hb] at h; exact ⟨.tail _ (ih h).1,(ih h).2⟩
  | false =>
   rw [hb] at h
   simp only [cond_false,List.mem_cons] at h
   rcases h with rfl | h
   ·simp only [Bool.or_eq_false_iff] at hb
    exact ⟨.head _,fun e=>by rw [e] at hb; simp [Nat.beq_refl] at hb,Df hb.2⟩
   ·exact ⟨.tail _ (ih h).1,(ih h).2⟩
def St.put (S:St) (d:Nat) (cs:Vy) (x:AV):St:=⟨⟨d,cs,x⟩::Yu S.env d,S.mem⟩
def St.del (S:St) (d:Nat):St:=⟨Yu S.env d,S.mem⟩
section
variable {X:Cx} {β:Nat→Nat} {ρ:Nat→Value} {S:St} {a a':Act} {w w':World}
theorem Jw {ok:Ok} {w:World}:∀{D:List DF},C9 ok w D↔∀d∈D,d.p ok w
 | []=>by simp [C9]
 | d::D=>by simp [C9,Jw (D:=D)]
theorem Rel.en (h:Rel X β ρ S a w) {e:En} (he:e∈S.env):(enD β ρ a e).p (okR X β ρ S.mem w) w:=Jw.1 h.dat _ (List.mem_map.2 ⟨e,he,rfl⟩)
theorem Rel.get (h:Rel X β ρ S a w) {t:Nat} {e:En} (he:Zw S.env t=some e) (hc:Ye a e.cs) :
  ∃cs,a.tmps[t]?=some (e.av.val cs)∧cr β ρ (okR X β ρ S.mem w) w false e.av cs:=by
 have hr:=S5 he a
 obtain ⟨hm,rfl⟩:=Uh he
 rw [←hr]
 exact (h.en hm).1 hc
theorem Rel.ev (h:Rel X β ρ S a w) {cur:Vy} (hc:Ye a cur) {x:Operand} {v:AV} (hx:ev S cur x=some v) :
  ∃cs,a.eval x=v.val cs∧cr β ρ (okR X β ρ S.mem w) w false v cs:=by
 cases x with
 | tmp t =>
  simp only [Gx.ev] at hx
  split at hx
  ·rename_i e he
   cases hb:Qdk e.cs cur with
   | false=>rw [hb] at hx; cases hx
   | true =>
    rw [hb] at hx
    simp at hx; subst hx
    obtain ⟨cs,h1,h2⟩:=h.get he (Bd hb hc)
    exact ⟨cs,by simp [Act.eval,h1],h2⟩
  ·cases hx
 | const v =>
  obtain ⟨cs,h1,h2⟩:=S7 (β:=β) (ρ:=ρ) (ok:=okR X β ρ S.mem w) (w:=w) hx
  exact ⟨cs,h1,h2⟩
 | func f =>
  simp [Gx.ev] at hx; subst hx
  exact ⟨[.func (.func f) #[] #[]],rfl,[],rfl,rfl⟩
 | global g =>
  simp only [Gx.ev] at hx
  split at hx
  ·rename_i e he
   cases hb:Qdk e.cs cur with
   | false=>rw [hb] at hx; cases hx
   | true =>
    rw [hb] at hx
    simp at hx; subst hx
    obtain ⟨hm,ht⟩:=Oh he
    obtain ⟨cs,h1,h2⟩:=(h.en hm).1 (Bd hb hc)
    rw [ht,Qj6] at h1
    exact ⟨cs,Option.some.inj h1,h2⟩
  ·cases hx
theorem Rel.act (h:Rel X β ρ S a w) {env':List En} (hs:a'.tmps.size=a.tmps.size) (hd:a'.defers=a.defers) (hr:∀t∈X.res,a'.tmps[t]?=a.tmps[t]?)
  (he:∀e∈env',(enD β ρ a' e).p (okR X β ρ S.mem w) w):Rel X β ρ ⟨env',S.mem⟩ a' w :=
 {sz:=hs.trans h.sz,df:=hd.trans h.df,fr:=fun t ht=>(hr t ht).trans (h.fr t ht),pn:=h.pn,tm:=by simp,bel:=h.bel,
  dat:=Jw.2 fun d hd=>by obtain ⟨e,hm,rfl⟩:=List.mem_map.1 hd; exact he e hm,
  obj:=h.obj,own:=h.own,dHH:=h.dHH,dHO:=h.dHO,dOO:=h.dOO }
theorem Vd {d t:Nat} (hne:t≠d) (v:Value):(a.put (some d) v).tmps[t]?=a.tmps[t]?:=by
 have:d≠t:=fun e=>hne e.symm
 simp [Act.put,this]
theorem M2 {d t:Nat} (hne:t≠d) (v:Value):rd (a.put (some d) v) t=rd a t:=by
 unfold rd
 rw [Vd hne]
theorem en_put (h:Rel X β ρ S a w) {d:Nat} (v:Value) {e:En} (he:e∈Yu S.env d):(enD β ρ (a.put (some d) v) e).p (okR X β ρ S.mem w) w:=by
 obtain ⟨h1,h2,h3⟩:=Wg he
 have hcc:Ye (a.put (some d) v) e.cs↔Ye a e.cs:=⟨fun hc c hm=>by rw [←Vd (h3 c hm) v]; exact hc c hm,fun hc c hm=>by rw [Vd (h3 c hm) v]; exact hc c hm⟩
 refine ⟨fun hc=>?_,?_⟩
 ·obtain ⟨cs,h4,h5⟩:=(h.en h1).1 (hcc.1 hc)
  exact ⟨cs,by rw [M2 h2]; exact h4,h5⟩
 ·rw [hcc,M2 h2]; exact (h.en h1).2
theorem Rel.put (h:Rel X β ρ S a w) {d:Nat} (hd:okD X d=true) {cs:Vy} {x:AV} {v:Value}
  (hx:Ye (a.put (some d) v) cs→∃c,v=x.val c∧cr β ρ (okR X β ρ S.mem w) w false x c) (hu:Ye (a.put (some d) v) cs∨v=undef):Rel X β ρ (S.put d cs x) (a.put (some d) v) w:=by
 refine h.act (by simp [Act.put]) rfl (fun k hk=>Vd (fun (e:k=d)=>Rw hd (e▸hk)) v) fun e he=>?_
 rcases List.mem_cons.1 he with rfl | he
 ·refine ⟨fun hc=>?_,hu.imp id fun e=>by rw [Xq (X4 hd)]; simp [Act.put,h.sz,Kx hd,e]⟩
  obtain ⟨c,h1,h2⟩:=hx hc
  exact ⟨c,by rw [Xq (X4 hd)]; simp [Act.put,h.sz,Kx hd,h1],h2⟩
 ·exact en_put h v he
theorem Rel.del (h:Rel X β ρ S a w) {d:Nat} (hd:okD X d=true) (v:Value):Rel X β ρ (S.del d) (a.put (some d) v) w :=
 h.act (by simp [Act.put]) rfl (fun k hk=>Vd (fun (e:k=d)=>Rw hd (e▸hk)) v) fun e he=>en_put h v he
theorem Rel.less (h:Rel X β ρ S a w) {env':List En} (he:∀e∈env',e∈S.env):Rel X β ρ ⟨env',S.mem⟩ a w :=
 h.act rfl rfl (fun _ _=>rfl) fun e hm=>h.en (he e hm)
theorem Qb (a:Act):Ye a []:=fun _ h=>by cases h
theorem Rel.put0 (h:Rel X β ρ S a w) {d:Nat} (hd:okD X d=true) {x:AV} {c:List Value} (hx:cr β ρ (okR X β ρ S.mem w) w false x c):Rel X β ρ (S.put d [] x) (a.put (some d) (x.val c)) w :=
 h.put hd (fun _=>⟨c,rfl,hx⟩) (.inl (Qb _))
def Qe:List (Nat×Ob)→Nat→Option Ob
 | [],_=>none
 | q::l,t=>bif Nat.beq q.1 t then some q.2 else Qe l t
def Lu:List (Nat×Ob)→Nat→Ob→List (Nat×Ob)
 | [],_,_=>[]
 | q::l,t,o=>bif Nat.beq q.1 t then (t,o)::l else q::Lu l t o
def Yi:List (Nat×Ob)→Nat→List (Nat×Ob)
 | [],_=>[]
 | q::l,t=>bif Nat.beq q.1 t then l else q::Yi l t
theorem Yd:∀{l:List (Nat×Ob)} {t:Nat} {o:Ob},Qe l t=some o→∃l1 l2,l=l1++(t,o)::l2∧(∀o',Lu l t o'=l1++(t,o')::l2)∧Yi l t=l1++l2
 | q::l,t,o,h=>by
  simp only [Qe] at h
  cases hb:Nat.beq q.1 t with
  | true =>
   rw [hb] at h
   simp at h
   have:=Nat.eq_of_beq_eq_true hb
   subst h; subst this
   exact ⟨[],l,rfl,fun o'=>by simp [Lu,hb],by simp [Yi,hb]⟩
  | false =>
   rw [hb] at h
   obtain ⟨l1,l2,h1,h2,h3⟩:=Yd h
   exact ⟨q::l1,l2,by rw [h1]; rfl,fun o'=>by simp [Lu,hb,h2 o'],by simp [Yi,hb,h3]⟩
theorem Rel.ob (h:Rel X β ρ S a w) {id:Nat} {o:Ob} (ho:Qe S.mem id=some o) :
  (Q2 β ρ id o).p (okR X β ρ S.mem w) w∧∀g,(Q2 β ρ id o).blks g→X.mine g:=by
 obtain ⟨l1,l2,h1,_⟩:=Yd ho
 exact h.own _ (by rw [h1]; simp [Qf])
end
end Gx

/- Maps of data: what the model does with them. -/
namespace Gx
open Go Go.RowKit Gd
set_option linter.unusedVariables false
set_option linter.unusedSimpArgs false
def G9:Ty→Bool
 | .int _=>true
 | .bool=>true
 | .str=>true
 | _=>false
def Be:Ty→Bool
 | .pr a r=>G9 a&&Be r
 | .unit=>true
 | t=>G9 t
def Ck:Ty→Bool
 | .st fs=>Be fs
 | t=>G9 t
def eqK:(t:Ty)→t.De→t.De→Bool
 | .int _,a,b=>a==b
 | .bool,a,b=>a==b
 | .str,a,b=>a==b
 | .pr f r,a,b=>eqK f a.1 b.1&&eqK r a.2 b.2
 | .unit,_,_=>true
 | .st fs,a,b=>eqK fs a b
 | _,_,_=>false
def Q0 {k:Ty} {ν:Type} (key:k.De):List (k.De×ν)→Option ν
 | []=>none
 | x::l=>bif eqK k key x.1 then some x.2 else Q0 key l
def Vq {k:Ty} {ν:Type} (key:k.De) (v:ν):List (k.De×ν)→List (k.De×ν)
 | []=>[(key,v)]
 | x::l=>bif eqK k key x.1 then (key,v)::l else x::Vq key v l
def Ka:(t:Ty)→t.De→List Value
 | .int k,n=>[.int k n]
 | .bool,b=>[.bool b]
 | .str,s=>[Y6 s]
 | .pr f r,x=>Ka f x.1++Ka r x.2
 | .st fs,x=>Ka fs x
 | _,_=>[]
def Vi:(t:Ty)→t.De→Value
 | .int k,n=>.int k n
 | .bool,b=>.bool b
 | .str,s=>Y6 s
 | .st fs,x=>.agg (Ka fs x).toArray
 | _,_=>undef
theorem Dg {t:Ty} (ht:G9 t=true) {ok:Ok} {w:World} {x:t.De} {cs:List Value}:(rt t).rep ok w x cs↔cs=Ka t x:=by
 cases t<;>simp [G9] at ht<;>exact Iff.rfl
theorem M3:∀{t:Ty},Be t=true→∀{ok:Ok} {w:World} {x:t.De} {cs:List Value},(rt t).rep ok w x cs↔cs=Ka t x
 | .pr f r,ht,ok,w,x,cs=>by
  simp only [Be,Bool.and_eq_true] at ht
  constructor
  ·rintro ⟨c1,c2,rfl,h1,h2⟩
   rw [(Dg ht.1).1 h1,(M3 ht.2).1 h2]; rfl
  ·rintro rfl
   exact ⟨_,_,rfl,(Dg ht.1).2 rfl,(M3 ht.2).2 rfl⟩
 | .unit,ht,ok,w,x,cs=>Iff.rfl
 | .int _,ht,ok,w,x,cs=>Dg ht
 | .bool,ht,ok,w,x,cs=>Dg ht
 | .str,ht,ok,w,x,cs=>Dg ht
 | .sl _,ht,_,_,_,_=>by simp [Be,G9] at ht
 | .arr _ _,ht,_,_,_,_=>by simp [Be,G9] at ht
 | .st _,ht,_,_,_,_=>by simp [Be,G9] at ht
theorem Qfv {t:Ty} (ht:Ck t=true) {ok:Ok} {w:World} {x:t.De} {v:Value}:isV (rt t) ok w x v↔v=Vi t x:=by
 cases t with
 | int k=>exact Qyc
 | bool=>exact Sj
 | str=>exact Qyd
 | st fs =>
  constructor
  ·rintro ⟨cs,h,rfl⟩
   rw [(M3 ht).1 h]; rfl
  ·rintro rfl
   exact ⟨_,(M3 ht).2 rfl,rfl⟩
 | _=>simp [Ck,G9] at ht
theorem Zx {t:Ty} (ht:Ck t=true) {ok:Ok} {w:World} {x:t.De} {v:Value} (h:isV (rt t) ok w x v):v=Vi t x:=(Qfv ht).1 h
theorem Rz {t:Ty} (ht:Ck t=true) {ok:Ok} {w:World} (x:t.De):isV (rt t) ok w x (Vi t x):=(Qfv ht).2 rfl
theorem Bf {t:Ty} (ht:G9 t=true) {x y:t.De}:eqK t x y=true↔x=y:=by
 cases t<;>simp [G9] at ht<;>simp [eqK]
theorem Qml:∀{t:Ty},Be t=true→∀{x y:t.De},eqK t x y=true↔x=y
 | .pr f r,ht,x,y=>by
  simp only [Be,Bool.and_eq_true] at ht
  obtain ⟨x1,x2⟩:=x
  obtain ⟨y1,y2⟩:=y
  simp only [eqK,Bool.and_eq_true,Bf ht.1,Qml ht.2,Prod.mk.injEq]
 | .unit,ht,x,y=>by simp [eqK]
 | .int _,ht,x,y=>Bf ht
 | .bool,ht,x,y=>Bf ht
 | .str,ht,x,y=>Bf ht
 | .sl _,ht,_,_=>by simp [Be,G9] at ht
 | .arr _ _,ht,_,_=>by simp [Be,G9] at ht
 | .st _,ht,_,_=>by simp [Be,G9] at ht
theorem U6 {t:Ty} (ht:Ck t=true) {x y:t.De}:eqK t x y=true↔x=y:=by
 cases t with
 | st fs=>exact Qml (t:=fs) ht
 | int k=>exact Bf (t:=.int k) rfl
 | bool=>exact Bf (t:=.bool) rfl
 | str=>exact Bf (t:=.str) rfl
 | _=>simp [Ck,G9] at ht
def K1:Ty→TypeDesc→Bool
 | .int k,.int k'=>F8 k k'
 | .bool,.bool=>true
 | .str,.string=>true
 | _,_=>false
def Qp0 (T:Tab) (f:Field) (t:Ty) (i:Nat):Bool:=f.name != "_" && Nat.beq f.offset i&&(match Qi T f.type with
 | some e=>K1 t e.d
 | none=>false)
def Xg (T:Tab):List Field→Ty→Nat→Bool
 | [],.unit,_=>true
 | [f],t,i=>Qp0 T f t i
 | f::g::fs,.pr a r,i=>Qp0 T f a i&&Xg T (g::fs) r (i+1)
 | _,_,_=>false
def Vk (T:Tab):Ty→TypeDesc→Bool
 | .st fs,.struct ⟨fds⟩=>Xg T fds fs 0
 | t,d=>K1 t d
theorem W9 {t:Ty} {d:TypeDesc} (h:K1 t d=true):G9 t=true:=by
 cases t<;>cases d<;>simp [K1] at h<;>rfl
theorem Gs {T:Tab} {f:Field} {t:Ty} {i:Nat} (h:Qp0 T f t i=true):(f.name != "_")=true∧f.offset=i∧∃e,Qi T f.type=some e∧K1 t e.d=true:=by
 simp only [Qp0,Bool.and_eq_true] at h
 refine ⟨h.1.1,Nat.eq_of_beq_eq_true h.1.2,?_⟩
 have h2:=h.2
 split at h2
 ·exact ⟨_,by assumption,h2⟩
 ·cases h2
theorem Pw {T:Tab}:∀{fds:List Field} {t:Ty} {i:Nat},Xg T fds t i=true→Be t=true
 | [],t,i,h=>by cases t<;>simp [Xg] at h; rfl
 | [f],t,i,h=>by
  simp only [Xg] at h
  obtain ⟨_,_,e,_,h3⟩:=Gs h
  have:=W9 h3
  cases t<;>simp [G9] at this<;>rfl
 | f::g::fs,t,i,h=>by
  cases t<;>simp only [Xg,Bool.and_eq_true] at h
  all_goals first | (cases h; done) | skip
  obtain ⟨_,_,e,_,h3⟩:=Gs h.1
  simp only [Be,Bool.and_eq_true]
  exact ⟨W9 h3,Pw h.2⟩
theorem Yc {T:Tab} {t:Ty} {d:TypeDesc} (h:Vk T t d=true):Ck t=true:=by
 cases t with
 | st fs =>
  cases d<;>simp [Vk,K1] at h
  rename_i fds
  obtain ⟨fds⟩:=fds
  exact Pw h
 | _=>cases d<;>simp [Vk,K1] at h<;>rfl
theorem Eg {t:Ty} (h:G9 t=true) (x:t.De):Ka t x=[Vi t x]:=by
 cases t<;>simp [G9] at h<;>rfl
section
variable {P:Program} {T:Tab}
theorem Qfw (hT:Jb P T) {f:Field} {t:Ty} {i:Nat} (h:Qp0 T f t i=true) {fs:List Field} {p1 p2 r1 r2:List Value} {x y:t.De} (h1:p1.length=i) (h2:p2.length=i) {q:Bool}
  (hq:Ss T fs (p1++Ka t x++r1) (p2++Ka t y++r2)=some q):Ss T (f::fs) (p1++Ka t x++r1) (p2++Ka t y++r2)=some (eqK t x y&&q):=by
 obtain ⟨_,ho,e,he,hs⟩:=Gs h
 obtain ⟨e1,e2,e3,e4,e5⟩:=e
 have g1:(p1++Ka t x++r1)[f.offset]?=some (Vi t x):=by
  rw [Eg (W9 hs),ho,←h1]; simp
 have g2:(p2++Ka t y++r2)[f.offset]?=some (Vi t y):=by
  rw [Eg (W9 hs),ho,←h2]; simp
 unfold Ss
 rw [he,g1,g2,hq]
 cases t<;>cases e2<;>simp [K1] at hs
 ·rename_i k k'
  simp only [Vi]
  rw [show F8 k k=true from by cases k<;>rfl]
  rfl
 ·rfl
 ·rfl
theorem Qfx (hT:Jb P T):∀{fds:List Field} {t:Ty} {i:Nat},Xg T fds t i=true→∀{p1 p2:List Value} {x y:t.De},p1.length=i→p2.length=i →
  Ss T fds (p1++Ka t x) (p2++Ka t y)=some (eqK t x y)∧Fy fds=true
 | [],t,i,h,p1,p2,x,y,h1,h2=>by
  cases t<;>simp [Xg] at h
  exact ⟨rfl,rfl⟩
 | [f],t,i,h,p1,p2,x,y,h1,h2=>by
  simp only [Xg] at h
  have hb:Fy [f]=true:=by simp only [Fy,List.all_cons,List.all_nil,Bool.and_true]; exact (Gs h).1
  refine ⟨?_,hb⟩
  have:=Qfw hT h (fs:=[]) (r1:=[]) (r2:=[]) (x:=x) (y:=y) h1 h2 rfl
  simpa using this
 | f::g::fs,t,i,h,p1,p2,x,y,h1,h2=>by
  cases t<;>simp only [Xg,Bool.and_eq_true] at h
  all_goals first | (cases h; done) | skip
  rename_i a r
  obtain ⟨x1,x2⟩:=x
  obtain ⟨y1,y2⟩:=y
  have hs:=W9 (Gs h.1).2.2.choose_spec.2
  have l1:(Ka a x1).length=1:=by rw [Eg hs]; rfl
  have l2:(Ka a y1).length=1:=by rw [Eg hs]; rfl
  obtain ⟨q1,q2⟩:=Qfx hT h.2 (p1:=p1++Ka a x1) (p2:=p2++Ka a y1) (x:=x2) (y:=y2) (by simp [l1,h1]) (by simp [l2,h2])
  refine ⟨?_,?_⟩
  ·have:=Qfw hT h.1 (fs:=g::fs) (r1:=Ka r x2) (r2:=Ka r y2) (x:=x1) (y:=y1) h1 h2 q1
   simp only [Ka,eqK]; simpa [List.append_assoc] using this
  ·simp only [Fy,List.all_cons,Bool.and_eq_true] at q2 ⊢
   exact ⟨(Gs h.1).1,q2⟩
theorem Eh (hT:Jb P T) {kt:TypeId} {te:TE} (ht:Qi T kt=some te) {t:Ty} (h:Vk T t te.d=true) (x y:t.De) (w:World):(Op.equal kt (Vi t x) (Vi t y)).run P w=.ok (eqK t x y) w:=by
 have hu:=(Yb hT ht).2
 cases t with
 | st fs =>
  obtain ⟨e1,e2,e3,e4,e5⟩:=te
  cases e2<;>simp [Vk,K1] at h
  rename_i fds
  obtain ⟨fds⟩:=fds
  have hf:P.fieldsOf kt=⟨fds⟩:=by simp [Program.fieldsOf,hu]
  have:=run_equalIn_struct (P:=P) w 9999 kt (Ka fs x).toArray (Ka fs y).toArray (by rw [hf,hu]) (Qfj hT ht).1
  rw [hf] at this
  show (Op.equalIn 10000 kt _ _).run P w=_
  simp only [Vi]
  rw [this]
  obtain ⟨q1,q2⟩:=Qfx hT h (p1:=[]) (p2:=[]) (x:=x) (y:=y) rfl rfl
  simp only [eqK]
  exact Qdj hT 9998 q2 (by simpa using q1)
 | int k =>
  obtain ⟨e1,e2,e3,e4,e5⟩:=te
  cases e2<;>simp [Vk,K1] at h
  exact run_equalIn_int w 9999 kt k _ x y hu
 | bool =>
  obtain ⟨e1,e2,e3,e4,e5⟩:=te
  cases e2<;>simp [Vk,K1] at h
  exact run_equalIn_bool' w 9999 kt x y hu
 | str =>
  obtain ⟨e1,e2,e3,e4,e5⟩:=te
  cases e2<;>simp [Vk,K1] at h
  show (Op.equalIn 10000 kt _ _).run P w=_
  simp only [Vi,Y6]
  rw [run_equalIn_string w 9999 kt ⟨⟨x⟩⟩ ⟨⟨y⟩⟩ hu]
  rw [show (ByteArray.mk ⟨x⟩).toList=x from ByteArray.toList_mk x,show (ByteArray.mk ⟨y⟩).toList=y from ByteArray.toList_mk y]
  rfl
 | _=>cases te with | mk e1 e2 e3 e4 e5=>cases e2<;>simp [Vk,K1] at h
theorem Ei (hT:Jb P T) {kt:TypeId} {te:TE} (ht:Qi T kt=some te) {t:Ty} (h:Vk T t te.d=true) (key:t.De) (w:World) {ν:Type} {s:RT ν} {ok:Ok}:∀{xs:List (t.De×ν)} {es:List MapEntry} (i:Nat),Wf (rt t) s ok w xs es →
  (Q0 key xs=none∧(Instr.findAsking kt (Vi t key) es i).run P w=.ok none w∧(Instr.findNow te.d (Vi t key) es i=some none∨Instr.findNow te.d (Vi t key) es i=none)) ∨
  (∃(j:Nat) (e:MapEntry) (y:ν),Q0 key xs=some y∧(Instr.findAsking kt (Vi t key) es i).run P w=.ok (some (i+j,e.val)) w∧(Instr.findNow te.d (Vi t key) es i=some (some (i+j,e.val))∨Instr.findNow te.d (Vi t key) es i=none)∧es[j]?=some e∧e.key=Vi t key∧isV s ok w y e.val)
 | [],es,i,hp=>by
  have:es=[]:=hp
  subst this
  exact .inl ⟨rfl,rfl,.inl rfl⟩
 | x::xs,es,i,hp=>by
  obtain ⟨e,es',rfl,h1,h2,h3⟩:=hp
  have hk:=Zx (Yc h) h1
  have heq:=Eh hT ht h key x.1 w
  have hsn:Instr.sameNow te.d (Vi t key) e.key=some (eqK t key x.1)∨Instr.sameNow te.d (Vi t key) e.key=none:=by
   rw [hk]
   cases t with
   | st fs=>exact .inr (by cases te with | mk e1 e2 e3 e4 e5=>cases e2<;>rfl)
   | int k =>
    obtain ⟨e1,e2,e3,e4,e5⟩:=te
    cases e2<;>simp [Vk,K1] at h
    exact .inl (by simp [Instr.sameNow,Vi,eqK])
   | bool =>
    obtain ⟨e1,e2,e3,e4,e5⟩:=te
    cases e2<;>simp [Vk,K1] at h
    exact .inl (by simp [Instr.sameNow,Vi,eqK])
   | str =>
    obtain ⟨e1,e2,e3,e4,e5⟩:=te
    cases e2<;>simp [Vk,K1] at h
    refine .inl ?_
    simp only [Instr.sameNow,Vi,eqK,Y6]
    congr 1
    rw [Bool.eq_iff_iff,MapKept.bytes_beq]
    simp
   | _=>cases te with | mk e1 e2 e3 e4 e5=>cases e2<;>simp [Vk,K1] at h
  simp only [Q0,Instr.findNow,Instr.findAsking,Sem.run_bind,hk,heq,Result.andThen_ok]
  rw [hk] at hsn
  cases he:eqK t key x.1 with
  | true =>
   have:=(U6 (Yc h)).1 he
   refine .inr ⟨0,e,x.2,rfl,by simp,?_,rfl,by rw [hk,this],h2⟩
   rcases hsn with hsn | hsn<;>rw [hsn]
   ·rw [he]; exact .inl rfl
   ·exact .inr rfl
  | false =>
   rcases Ei hT ht h key w (i+1) h3 with ⟨q1,q2,q3⟩ | ⟨j,e',y,q1,q2,q3,q4,q5,q6⟩
   ·refine .inl ⟨q1,by simpa using q2,?_⟩
    rcases hsn with hsn | hsn<;>rw [hsn]
    ·rw [he]; exact q3
    ·exact .inr rfl
   ·have ea:i+1+j=i+(j+1):=by omega
    rw [ea] at q2 q3
    refine .inr ⟨j+1,e',y,q1,by simpa using q2,?_,q4,q5,q6⟩
    rcases hsn with hsn | hsn<;>rw [hsn]
    ·rw [he]; exact q3
    ·exact .inr rfl
theorem Ab (hT:Jb P T) {kt:TypeId} {te:TE} (ht:Qi T kt=some te) {t:Ty} (h:Vk T t te.d=true) (key:t.De) (w:World) {ν:Type} {s:RT ν} {ok:Ok} {xs:List (t.De×ν)} {es:List MapEntry} (hp:Wf (rt t) s ok w xs es) :
  (Q0 key xs=none∧(Instr.findKey kt (Vi t key) es).run P w=.ok none w) ∨
  (∃(j:Nat) (e:MapEntry) (y:ν),Q0 key xs=some y∧(Instr.findKey kt (Vi t key) es).run P w=.ok (some (j,e.val)) w∧es[j]?=some e∧e.key=Vi t key∧isV s ok w y e.val):=by
 have hu:=(Yb hT ht).2
 rcases Ei hT ht h key w 0 hp with ⟨q1,q2,q3⟩ | ⟨j,e,y,q1,q2,q3,q4,q5,q6⟩
 ·refine .inl ⟨q1,?_⟩
  rcases q3 with q3 | q3
  ·exact MapKept.run_findKey hu q3
  ·simp [Instr.findKey,run_underlying hu,Result.andThen,q3,q2]
 ·rw [Nat.zero_add] at q2 q3
  refine .inr ⟨j,e,y,q1,?_,q4,q5,q6⟩
  rcases q3 with q3 | q3
  ·exact MapKept.run_findKey hu q3
  ·simp [Instr.findKey,run_underlying hu,Result.andThen,q3,q2]
theorem M4 (hT:Jb P T) {f:Field} {t:Ty} {i:Nat} (h:Qp0 T f t i=true) {p r:List Value} {x:t.De} (h1:p.length=i) (w:World) (e:Bool) (n:Nat) :
  (part f.type (p++Ka t x++r).toArray f.offset).run P w=.ok (Vi t x) w∧(Instr.checkKey e (n+1) f.type (Vi t x)).run P w=.ok () w:=by
 obtain ⟨_,ho,te,he,hs⟩:=Gs h
 have hu:=(Yb hT he).2
 have g1:(p++Ka t x++r)[f.offset]?=some (Vi t x):=by
  rw [Eg (W9 hs),ho,←h1]; simp
 refine ⟨Lt hT he ?_ g1,?_⟩
 ·obtain ⟨e1,e2,e3,e4,e5⟩:=te
  cases t<;>cases e2<;>simp [K1] at hs<;>rfl
 ·refine MapKept.run_checkKey hu ?_ e n
  obtain ⟨e1,e2,e3,e4,e5⟩:=te
  cases t<;>cases e2<;>simp [K1] at hs
  ·rename_i a b
   have:=Gy hs
   exact this
  ·trivial
  ·trivial
theorem Cd (hT:Jb P T) (w:World) (e:Bool) (n:Nat) {body:Field→PUnit→Sem (ForInStep PUnit)} {cs:List Value}
  (hbody:∀(f:Field) (v:Value),f.name ≠ "_" → (part f.type cs.toArray f.offset).run P w=.ok v w→(Instr.checkKey e (n+1) f.type v).run P w=.ok () w→(body f ⟨⟩).run P w=.ok (ForInStep.yield ⟨⟩) w):∀{fds:List Field} {t:Ty} {i:Nat},Xg T fds t i=true→∀{p:List Value} {x:t.De},p.length=i→cs=p++Ka t x →
  (forIn fds PUnit.unit body).run P w=.ok ⟨⟩ w
 | [],t,i,h,p,x,h1,hc=>by simp
 | [f],t,i,h,p,x,h1,hc=>by
  simp only [Xg] at h
  have hn:f.name ≠ "_" := by simpa using (Gs h).1
  obtain ⟨q1,q2⟩:=M4 hT h (r:=[]) (x:=x) h1 w e n
  rw [List.append_nil,←hc] at q1
  simp [hbody f _ hn q1 q2,Result.andThen]
 | f::g::fs,t,i,h,p,x,h1,hc=>by
  cases t<;>simp only [Xg,Bool.and_eq_true] at h
  all_goals first | (cases h; done) | skip
  rename_i a r
  obtain ⟨x1,x2⟩:=x
  have hs:=W9 (Gs h.1).2.2.choose_spec.2
  have l1:(Ka a x1).length=1:=by rw [Eg hs]; rfl
  have hn:f.name ≠ "_" := by simpa using (Gs h.1).1
  obtain ⟨q1,q2⟩:=M4 hT h.1 (r:=Ka r x2) (x:=x1) h1 w e n
  have hc':cs=p++Ka a x1++Ka r x2:=by rw [hc]; simp [Ka]
  rw [←hc'] at q1
  have ih:=Cd hT w e n hbody h.2 (p:=p++Ka a x1) (x:=x2) (by simp [l1,h1]) hc'
  rw [List.forIn_cons]
  simp only [Sem.run_bind,hbody f _ hn q1 q2,Result.andThen]
  exact ih
theorem Xs (hT:Jb P T) {kt:TypeId} {te:TE} (ht:Qi T kt=some te) {t:Ty} (h:Vk T t te.d=true) (x:t.De) (w:World) (e:Bool):(Instr.checkKey e 10000 kt (Vi t x)).run P w=.ok () w:=by
 have hu:=(Yb hT ht).2
 cases t with
 | st fs =>
  obtain ⟨e1,e2,e3,e4,e5⟩:=te
  cases e2<;>simp [Vk,K1] at h
  rename_i fds
  obtain ⟨fds⟩:=fds
  unfold Instr.checkKey
  simp only [Sem.run_bind,run_underlying hu,Result.andThen,Vi]
  simp only [List.forIn_toArray]
  rw [Cd hT w e 9998 (cs:=Ka fs x) (fun f v hn h1 h2=>by simp [hn,h1,h2,Result.andThen]) h (p:=[]) (x:=x) rfl rfl]
  rfl
 | int k =>
  obtain ⟨e1,e2,e3,e4,e5⟩:=te
  cases e2<;>simp [Vk,K1] at h
  exact MapKept.run_checkKey hu (show MapKept.IsKey (.int _) (.int k x) from Gy h) e 9999
 | bool =>
  obtain ⟨e1,e2,e3,e4,e5⟩:=te
  cases e2<;>simp [Vk,K1] at h
  exact MapKept.run_checkKey hu (show MapKept.IsKey .bool (.bool x) from trivial) e 9999
 | str =>
  obtain ⟨e1,e2,e3,e4,e5⟩:=te
  cases e2<;>simp [Vk,K1] at h
  exact MapKept.run_checkKey hu (show MapKept.IsKey .string (Y6 x) from trivial) e 9999
 | _=>cases te with | mk e1 e2 e3 e4 e5=>cases e2<;>simp [Vk,K1] at h
theorem Xt {t:Ty} (h:G9 t=true) (x:t.De) (n:Nat):Instr.sameBits n (Vi t x) (Vi t x)=true:=by
 cases t<;>simp [G9] at h<;>cases n<;>simp [Instr.sameBits,Vi,Y6]
 all_goals rw [MapKept.bytes_beq]
theorem S8 {n:Nat}:∀{t:Ty},Be t=true→∀(x:t.De),((Ka t x).zip (Ka t x)).all (fun (x,y)=>Instr.sameBits n x y)=true
 | .pr f r,ht,x=>by
  simp only [Be,Bool.and_eq_true] at ht
  have ih:=S8 (n:=n) ht.2 x.2
  simp only [Ka,Eg ht.1,List.singleton_append,List.zip_cons_cons,List.all_cons,Xt ht.1,ih,Bool.and_self]
 | .unit,ht,x=>rfl
 | .int k,ht,x=>by have:=Xt (t:=.int k) rfl x n; simpa [Ka,Vi] using this
 | .bool,ht,x=>by have:=Xt (t:=.bool) rfl x n; simpa [Ka,Vi] using this
 | .str,ht,x=>by have:=Xt (t:=.str) rfl x n; simpa [Ka,Vi] using this
 | .sl _,ht,_=>by simp [Be,G9] at ht
 | .arr _ _,ht,_=>by simp [Be,G9] at ht
 | .st _,ht,_=>by simp [Be,G9] at ht
theorem Qp1 {t:Ty} (h:Ck t=true) (x:t.De) (w:World):(Instr.keyThatStays (Vi t x) (Vi t x)).run P w=.ok (Vi t x) w:=by
 have:Instr.sameBits 10000 (Vi t x) (Vi t x)=true:=by
  cases t with
  | st fs =>
   have:=S8 (n:=9999) h x
   simp [Vi,Instr.sameBits] at this ⊢
   exact this
  | int k=>exact Xt (t:=.int k) rfl x _
  | bool=>exact Xt (t:=.bool) rfl x _
  | str=>exact Xt (t:=.str) rfl x _
  | _=>simp [Ck,G9] at h
 simp [Instr.keyThatStays,this]
theorem Lv (hT:Jb P T) {t kt et:TypeId} {te tk tz:TE} (ht:Qi T t=some te) (htd:te.d=.map kt et) (hk:Qi T kt=some tk) (hz:Qi T et=some tz)
  {k:Ty} {ν:Type} {s:RT ν} (hd:Vk T k tk.d=true) {ok:Ok} {w:World} {g:Nat} {es:Array MapEntry} {clock:Nat} (hg:w.heap[g]?=some (.map es clock)) {xs:List (k.De×ν)} (hp:Wf (rt k) s ok w xs es.toList)
  (key:k.De) {z:ν} (hzv:isV s ok w z tz.z) (c:Bool) :
  ∃v,(Instr.lookup t (.map (some g)) (Vi k key) c).run P w=.ok (if c=true then .tuple #[v,.bool (Q0 key xs).isSome] else v) w∧isV s ok w ((Q0 key xs).getD z) v ∧
   (Q0 key xs=none∧v=tz.z∨∃(j:Nat) (e:MapEntry),es.toList[j]?=some e∧e.key=Vi k key∧v=e.val):=by
 have hu:=(Yb hT ht).2
 rw [htd] at hu
 have hzr:(zeroValue et).run P w=.ok tz.z w:=Vp hT w hz
 rcases Ab hT hk hd key w hp with ⟨q1,q2⟩ | ⟨j,e,y,q1,q2,q3,q4,q5⟩
 ·refine ⟨tz.z,?_,by rw [q1]; exact hzv,.inl ⟨q1,rfl⟩⟩
  simp [Instr.lookup,run_underlying hu,MapKept.run_getObj_map hg,Xs hT hk hd,q2,hzr,Result.andThen,q1]
 ·refine ⟨e.val,?_,by rw [q1]; exact q5,.inr ⟨j,e,q3,q4,rfl⟩⟩
  simp [Instr.lookup,run_underlying hu,MapKept.run_getObj_map hg,Xs hT hk hd,q2,Result.andThen,q1]
theorem Qbp (hT:Jb P T) {t kt et:TypeId} {te tk tz:TE} (ht:Qi T t=some te) (htd:te.d=.map kt et) (hk:Qi T kt=some tk) (hz:Qi T et=some tz)
  {k:Ty} (hd:Vk T k tk.d=true) {w:World} (key:k.De) (c:Bool) :
  (Instr.lookup t (.map none) (Vi k key) c).run P w=.ok (if c=true then .tuple #[tz.z,.bool false] else tz.z) w:=by
 have hu:=(Yb hT ht).2
 rw [htd] at hu
 have hzr:(zeroValue et).run P w=.ok tz.z w:=Vp hT w hz
 rcases Ab (ok:=fun _ _=>True) hT hk hd key w (s:=Qbx) (xs:=[]) (es:=[]) rfl with ⟨q1,q2⟩ | ⟨j,e,y,q1,q2,q3,q4,q5⟩
 ·simp [Instr.lookup,run_underlying hu,Xs hT hk hd,q2,hzr,Result.andThen]
 ·simp at q3
theorem Qmm (hT:Jb P T) {kt:TypeId} {te:TE} (ht:Qi T kt=some te) {k:Ty} (h:Vk T k te.d=true) (key:k.De) {ν:Type} {s:RT ν} {ok:Ok} {w:World} {y:ν} {v:Value} (hv:isV s ok w y v):∀{xs:List (k.De×ν)} {es:List MapEntry},Wf (rt k) s ok w xs es →
  (Q0 key xs=none∧∀c,Wf (rt k) s ok w (Vq key y xs) (es++[⟨Vi k key,v,c⟩])) ∨
  (∃(j:Nat) (e:MapEntry),(∀i,(Instr.findAsking kt (Vi k key) es i).run P w=.ok (some (i+j,e.val)) w)∧es[j]?=some e∧e.key=Vi k key∧Wf (rt k) s ok w (Vq key y xs) (es.modify j fun e=>{ e with key:=Vi k key,val:=v }))
 | [],es,hp=>by
  have:es=[]:=hp
  subst this
  exact .inl ⟨rfl,fun c=>⟨_,[],rfl,Rz (Yc h) key,hv,rfl⟩⟩
 | x::xs,es,hp=>by
  obtain ⟨e,es',rfl,h1,h2,h3⟩:=hp
  have hk:=Zx (Yc h) h1
  have heq:=Eh hT ht h key x.1 w
  simp only [Vq,Q0,Instr.findAsking,Sem.run_bind,hk,heq,Result.andThen_ok]
  cases he:eqK k key x.1 with
  | true =>
   have:=(U6 (Yc h)).1 he
   exact .inr ⟨0,e,by simp,rfl,by rw [hk,this],⟨_,es',rfl,Rz (Yc h) key,hv,h3⟩⟩
  | false =>
   rcases Qmm hT ht h key hv h3 with ⟨q1,q2⟩ | ⟨j,e',q2,q3,q4,q5⟩
   ·exact .inl ⟨q1,fun c=>⟨e,_,rfl,h1,h2,q2 c⟩⟩
   ·exact .inr ⟨j+1,e',fun i=>by rw [show i+(j+1)=i+1+j by omega]; simpa using q2 (i+1),q3,q4,⟨e,_,rfl,h1,h2,q5⟩⟩
def Bg (es:Array MapEntry) (clock:Nat):Prop:=(es.toList.map MapEntry.born).Nodup∧∀e∈es.toList,e.born<clock
theorem Io {k:Ty} {ν:Type} (hk:Ck k=true) (key:k.De) (y:ν):∀{xs:List (k.De×ν)},(xs.map Prod.fst).Nodup→((Vq key y xs).map Prod.fst).Nodup∧∀z∈(Vq key y xs).map Prod.fst,z=key∨z∈xs.map Prod.fst
 | [],_=>⟨by simp [Vq],by simp [Vq]⟩
 | x::xs,h=>by
  simp only [Vq]
  have h1:=List.nodup_cons.1 h
  cases he:eqK k key x.1 with
  | true =>
   have:=(U6 hk).1 he
   refine ⟨?_,fun z hz=>?_⟩
   ·simp only [cond_true,List.map_cons,List.nodup_cons]
    exact ⟨by rw [this]; exact h1.1,h1.2⟩
   ·simp only [cond_true,List.map_cons,List.mem_cons] at hz
    rcases hz with rfl | hz
    ·exact .inl rfl
    ·exact .inr (List.mem_cons_of_mem _ hz)
  | false =>
   obtain ⟨h2,h3⟩:=Io hk key y h1.2
   refine ⟨?_,fun z hz=>?_⟩
   ·simp only [cond_false,List.map_cons,List.nodup_cons]
    refine ⟨fun hm=>?_,h2⟩
    rcases h3 _ hm with hm | hm
    ·rw [hm,(U6 hk).2 rfl] at he; cases he
    ·exact h1.1 hm
   ·simp only [cond_false,List.map_cons,List.mem_cons] at hz
    rcases hz with rfl | hz
    ·exact .inr (List.mem_cons_self)
    ·rcases h3 _ hz with hz | hz
     ·exact .inl hz
     ·exact .inr (List.mem_cons_of_mem _ hz)
theorem Hs (hT:Jb P T) {t kt et:TypeId} {te tk:TE} (ht:Qi T t=some te) (htd:te.d=.map kt et) (hk:Qi T kt=some tk)
  {k:Ty} (hd:Vk T k tk.d=true) {w:World} {g:Nat} {es:Array MapEntry} {clock:Nat} (hg:w.heap[g]?=some (.map es clock)) (key:k.De) {v:Value} :
  ((Instr.findKey kt (Vi k key) es.toList).run P w=.ok none w→(Instr.mapUpdate t (.map (some g)) (Vi k key) v).run P w=.ok () { w with heap:=w.heap.setIfInBounds g (.map (es.push ⟨Vi k key,v,clock⟩) (clock+1)) }) ∧
  (∀j e,(Instr.findKey kt (Vi k key) es.toList).run P w=.ok (some (j,e.val)) w→es.toList[j]?=some e→e.key=Vi k key →
   (Instr.mapUpdate t (.map (some g)) (Vi k key) v).run P w=.ok () { w with heap:=w.heap.setIfInBounds g (.map (es.modify j fun e=>{ e with key:=Vi k key,val:=v }) clock) }):=by
 have hu:=(Yb hT ht).2
 rw [htd] at hu
 refine ⟨fun q=>?_,fun j e q2 q3 q4=>?_⟩
 ·simp [Instr.mapUpdate,run_underlying hu,MapKept.run_getObj_map hg,Xs hT hk hd,q,MapKept.run_setObj_map _ hg,Result.andThen]
 ·have hj:es[j]?=some e:=by simpa using q3
  simp [Instr.mapUpdate,run_underlying hu,MapKept.run_getObj_map hg,Xs hT hk hd,q2,hj,q4,Qp1 (Yc hd),MapKept.run_setObj_map _ hg,Result.andThen]
theorem Ta {es:Array MapEntry} {clock:Nat} (hst:Bg es clock) (kv v:Value):Bg (es.push ⟨kv,v,clock⟩) (clock+1):=by
 refine ⟨?_,fun e he=>?_⟩
 ·simp only [Array.toList_push,List.map_append,List.map_cons,List.map_nil]
  refine List.nodup_append.2 ⟨hst.1,by simp,fun a ha b hb=>?_⟩
  obtain ⟨e,he,rfl⟩:=List.mem_map.1 ha
  simp at hb; subst hb
  exact Nat.ne_of_lt (hst.2 e he)
 ·simp only [Array.toList_push,List.mem_append,List.mem_singleton] at he
  rcases he with he | rfl
  ·exact Nat.lt_succ_of_lt (hst.2 e he)
  ·exact Nat.lt_succ_self _
theorem M5 {es:Array MapEntry} {clock:Nat} (hst:Bg es clock) (kv v:Value) (j:Nat):Bg (es.modify j fun e=>{ e with key:=kv,val:=v }) clock:=by
 have hmap:∀(l:List MapEntry) (j:Nat),(l.modify j fun e=>{ e with key:=kv,val:=v }).map MapEntry.born=l.map MapEntry.born:=by
  intro l
  induction l with
  | nil=>intro j; cases j<;>rfl
  | cons x l ih=>intro j; cases j with
   | zero=>rfl
   | succ j=>simp [ih j]
 refine ⟨?_,fun e he=>?_⟩
 ·rw [Array.toList_modify,hmap]; exact hst.1
 ·have hb:e.born∈(es.toList.modify j fun e=>{ e with key:=kv,val:=v }).map MapEntry.born:=List.mem_map.2 ⟨e,by simpa using he,rfl⟩
  rw [hmap] at hb
  obtain ⟨e',he',hbe⟩:=List.mem_map.1 hb
  rw [←hbe]; exact hst.2 e' he'
theorem Lw (hT:Jb P T) {kt:TypeId} {te:TE} (ht:Qi T kt=some te) {t:Ty} (h:Vk T t te.d=true) (key:t.De) (w:World) {ν:Type} {s:RT ν} {ok:Ok} {xs:List (t.De×ν)} {es:List MapEntry} (hp:Wf (rt t) s ok w xs es)
  {r:Option (Nat×Value)} (hr:(Instr.findAsking kt (Vi t key) es 0).run P w=.ok r w):(Instr.findKey kt (Vi t key) es).run P w=.ok r w:=by
 have hu:=(Yb hT ht).2
 rcases Ei hT ht h key w 0 hp with ⟨q1,q2,q3⟩ | ⟨j,e,y,q1,q2,q3,q4,q5,q6⟩
 ·rw [hr] at q2; injection q2 with q2; subst q2
  rcases q3 with q3 | q3
  ·exact MapKept.run_findKey hu q3
  ·simp [Instr.findKey,run_underlying hu,Result.andThen,q3,hr]
 ·rw [hr] at q2; injection q2 with q2; subst q2
  rcases q3 with q3 | q3
  ·exact MapKept.run_findKey hu q3
  ·simp [Instr.findKey,run_underlying hu,Result.andThen,q3,hr]
theorem Lg (hT:Jb P T) {t kt et:TypeId} {te tk:TE} (ht:Qi T t=some te) (htd:te.d=.map kt et) (hk:Qi T kt=some tk)
  {k:Ty} {ν:Type} {s:RT ν} (hd:Vk T k tk.d=true) {ok:Ok} {w:World} {g:Nat} {es:Array MapEntry} {clock:Nat} (hg:w.heap[g]?=some (.map es clock)) {xs:List (k.De×ν)} (hp:Wf (rt k) s ok w xs es.toList) (hst:Bg es clock)
  (key:k.De) {y:ν} {v:Value} (hv:isV s ok w y v) :
  ∃es' clock',(Instr.mapUpdate t (.map (some g)) (Vi k key) v).run P w=.ok () { w with heap:=w.heap.setIfInBounds g (.map es' clock') }∧Wf (rt k) s ok w (Vq key y xs) es'.toList∧Bg es' clock':=by
 rcases Qmm hT hk hd key hv hp with ⟨q1,q2⟩ | ⟨j,e,q2,q3,q4,q5⟩
 ·rcases Ab hT hk hd key w hp with ⟨r1,r2⟩ | ⟨j,e,y',r1,_⟩
  ·exact ⟨_,_,(Hs hT ht htd hk hd hg key).1 r2,by simpa using q2 clock,Ta hst _ _⟩
  ·rw [q1] at r1; cases r1
 ·have h2:=q2 0
  rw [Nat.zero_add] at h2
  exact ⟨_,_,(Hs hT ht htd hk hd hg key).2 j e (Lw hT hk hd key w hp h2) q3 q4,by simpa using q5,M5 hst _ _ _⟩
end
end Gx

/- Parts of values; values as data. -/
namespace Gx
open Go Go.RowKit Gd
set_option linter.unusedVariables false
set_option linter.unusedSimpArgs false
def exF:(fs:Ty)→fs.De→AV
 | .pr f r,x=>.cons (.d f x.1) (exF r x.2)
 | .unit,_=>.nil
 | .int k,x=>.cons (.d (.int k) x) .nil
 | .bool,x=>.cons (.d .bool x) .nil
 | .str,x=>.cons (.d .str x) .nil
 | .sl e,x=>.cons (.d (.sl e) x) .nil
 | .arr n e,x=>.cons (.d (.arr n e) x) .nil
 | .st fs,x=>.cons (.d (.st fs) x) .nil
 | .ref,x=>.cons (.d .ref x) .nil
 | .rose fs,x=>.cons (.d (.rose fs) x) .nil
def Qyq:AV→AV→AV
 | .cons x r,m=>.cons x (Qyq r m)
 | .nil,m=>m
 | x,_=>x
def Qfy:AV→Bool
 | .cons _ r=>Qfy r
 | .nil=>true
 | _=>false
@[reducible] def Qsz:Ty→Ty→Ty
 | .pr f g,u=>.pr f (Qsz g u)
 | .int k,u=>.pr (.int k) u
 | .bool,u=>.pr .bool u
 | .str,u=>.pr .str u
 | .sl e,u=>.pr (.sl e) u
 | .arr n e,u=>.pr (.arr n e) u
 | .st fs,u=>.pr (.st fs) u
 | .ref,u=>.pr .ref u
 | .rose fs,u=>.pr (.rose fs) u
 | .unit,u=>.pr .unit u
def Qyr:(fs u:Ty)→(Qsz fs u).De→fs.De×u.De
 | .pr f g,u,x=>match Qyr g u x.2 with
  | (y,z)=>((x.1,y),z)
 | .int _,_,x=>x
 | .bool,_,x=>x
 | .str,_,x=>x
 | .sl _,_,x=>x
 | .arr _ _,_,x=>x
 | .st _,_,x=>x
 | .ref,_,x=>x
 | .rose _,_,x=>x
 | .unit,_,x=>x
def Fz:AV→Option AV
 | .d (.st fs) x=>some (exF fs x)
 | .d (.rose fs) x=>some (Qyq (exF fs x.x) (.cons (.d (.sl (.rose fs)) x.ks) .nil))
 | .ag l=>some l
 | _=>none
def kid:AV→Nat→Option (AV×Nat)
 | .cons x _,0=>some (x,0)
 | .cons x r,k+1=>match kid r k with
  | some (y,o)=>some (y,x.size+o)
  | none=>none
 | _,_=>none
def nav:List PS→AV→Option AV
 | [],x=>some x
 | .f k off::ps,x=>match Fz x with
  | some l=>match kid l k with
   | some (y,o)=>bif Nat.beq o off then nav ps y else none
   | none=>none
  | none=>none
 | .i _ _::_,_=>none
def Un (g:AV→Option AV):AV→Nat→Option (AV×Nat)
 | .cons x r,0=>match g x with
  | some y=>some (.cons y r,0)
  | none=>none
 | .cons x r,k+1=>match Un g r k with
  | some (r',o)=>some (.cons x r',x.size+o)
  | none=>none
 | _,_=>none
def M6 (cur new:AV):Bool:=Nat.beq new.size cur.size&&new.inMem&&new.isVal&&cur.isVal
def Cl:List PS→AV→AV→Option AV
 | [],cur,new=>bif M6 cur new then some new else none
 | .f k off::ps,cur,new=>match Fz cur with
  | some l=>match Un (fun c=>Cl ps c new) l k with
   | some (l',o)=>bif Nat.beq o off then some (.ag l') else none
   | none=>none
  | none=>none
 | .i _ _::_,_,_=>none
def asD (M:List (Nat×Ob)):AV→(t:Ty)→Option t.De
 | .d t x,u=>Ty.cast t u x
 | .ns,.sl _=>some []
 | .z,.sl _=>some []
 | .s id,.sl e=>match Qe M id with
  | some (.tail _ t xs)=>Ty.cast (.sl t) (.sl e) xs
  | _=>none
 | .ag l,.st fs=>asD M l fs
 | .ag l,.rose fs=>match asD M l (Qsz fs (.sl (.rose fs))) with
  | some x=>match Qyr fs (.sl (.rose fs)) x with
   | (a,ks)=>some (.mk a ks)
  | none=>none
 | .nil,.unit=>some ()
 | .cons x r,.pr f g=>match asD M x f,asD M r g with
  | some a,some b=>some (a,b)
  | _,_=>none
 | .cons x .nil,.int k=>asD M x (.int k)
 | .cons x .nil,.bool=>asD M x .bool
 | .cons x .nil,.str=>asD M x .str
 | .cons x .nil,.sl e=>asD M x (.sl e)
 | .cons x .nil,.arr n e=>asD M x (.arr n e)
 | .cons x .nil,.st fs=>asD M x (.st fs)
 | .cons x .nil,.rose fs=>asD M x (.rose fs)
 | _,_=>none
section
variable {β:Nat→Nat} {ρ:Nat→Value} {ok:Ok} {w:World}
theorem Qj7:∀{fs:Ty} {x:fs.De} {cs:List Value},(rt fs).rep ok w x cs→cr β ρ ok w false (exF fs x) cs
 | .pr f r,x,cs,⟨c1,c2,h,h1,h2⟩=>⟨c1,c2,h,h1,Qj7 h2⟩
 | .unit,_,cs,h=>h
 | .int k,x,cs,h=>⟨cs,[],by simp,h,rfl⟩
 | .bool,x,cs,h=>⟨cs,[],by simp,h,rfl⟩
 | .str,x,cs,h=>⟨cs,[],by simp,h,rfl⟩
 | .sl e,x,cs,h=>⟨cs,[],by simp,h,rfl⟩
 | .arr n e,x,cs,h=>⟨cs,[],by simp,h,rfl⟩
 | .st fs,x,cs,h=>⟨cs,[],by simp,h,rfl⟩
 | .ref,x,cs,h=>h.elim
 | .rose fs,x,cs,h=>⟨cs,[],by simp,h,rfl⟩
theorem Qfz:∀(fs:Ty) (x:fs.De),Qfy (exF fs x)=true
 | .pr f r,x=>Qfz r x.2
 | .unit,_=>rfl
 | .int k,x=>rfl
 | .bool,x=>rfl
 | .str,x=>rfl
 | .sl e,x=>rfl
 | .arr n e,x=>rfl
 | .st fs,x=>rfl
 | .ref,x=>rfl
 | .rose fs,x=>rfl
theorem Qdm:∀{l m:AV} {c1 c2:List Value},Qfy l=true→cr β ρ ok w false l c1→cr β ρ ok w false m c2→cr β ρ ok w false (Qyq l m) (c1++c2)
 | .cons x r,m,c1,c2,hl,⟨d1,d2,e,h1,h2⟩,hm=>⟨d1,d2++c2,by rw [e,List.append_assoc],h1,Qdm (l:=r) hl h2 hm⟩
 | .nil,m,c1,c2,_,h,hm=>by
  have h:c1=[]:=h
  subst h; exact hm
theorem Qmn:∀{fs u:Ty} {x:(Qsz fs u).De} {cs:List Value},(rt (Qsz fs u)).rep ok w x cs→∃c1 c2,cs=c1++c2∧(rt fs).rep ok w (Qyr fs u x).1 c1∧(rt u).rep ok w (Qyr fs u x).2 c2
 | .pr f g,u,x,cs,⟨c1,c2,e,h1,h2⟩=>by
  obtain ⟨d1,d2,e2,h3,h4⟩:=Qmn (fs:=g) (u:=u) h2
  exact ⟨c1++d1,d2,by rw [e,e2,List.append_assoc],⟨c1,d1,rfl,h1,h3⟩,h4⟩
 | .int _,_,x,cs,h=>h
 | .bool,_,x,cs,h=>h
 | .str,_,x,cs,h=>h
 | .sl _,_,x,cs,h=>h
 | .arr _ _,_,x,cs,h=>h
 | .st _,_,x,cs,h=>h
 | .ref,_,x,cs,h=>h
 | .rose _,_,x,cs,h=>h
 | .unit,_,x,cs,h=>h
theorem Ol {x l:AV} {cs:List Value} (h:Fz x=some l) (hc:cr β ρ ok w false x cs):cr β ρ ok w false l cs:=by
 unfold Fz at h
 split at h
 ·simp at h; subst h; exact Qj7 hc
 ·simp at h; subst h
  obtain ⟨c1,c2,rfl,h1,h2⟩:=Qpx hc
  exact Qdm (Qfz _ _) (Qj7 h1) ⟨c2,[],by simp,h2,rfl⟩
 ·simp at h; subst h; exact hc
 ·cases h
theorem Qs0:∀{l:AV} {k:Nat} {y:AV} {o:Nat} {cs:List Value},kid l k=some (y,o)→cr β ρ ok w false l cs →
  cr β ρ ok w false y ((cs.drop o).take y.size)∧o+y.size≤cs.length
 | .cons x r,0,y,o,cs,h,⟨c1,c2,e,h1,h2⟩=>by
  simp [kid] at h
  obtain ⟨rfl,rfl⟩:=h
  subst e
  rw [←Us h1,List.drop_zero,List.take_left]
  exact ⟨h1,by simp⟩
 | .cons x r,k+1,y,o,cs,h,⟨c1,c2,e,h1,h2⟩=>by
  simp only [kid] at h
  split at h
  ·rename_i y' o' hk
   simp at h
   obtain ⟨rfl,rfl⟩:=h
   obtain ⟨h3,h4⟩:=Qs0 hk h2
   subst e
   have hl:=Us h1
   refine ⟨?_,by rw [List.length_append,hl]; omega⟩
   rw [←hl,←List.drop_drop,List.drop_left]
   exact h3
  ·cases h
 | .d ..,_,_,_,_,h,_=>by simp [kid] at h
 | .p ..,_,_,_,_,h,_=>by simp [kid] at h
 | .e ..,_,_,_,_,h,_=>by simp [kid] at h
 | .s ..,_,_,_,_,h,_=>by simp [kid] at h
 | .m ..,_,_,_,_,h,_=>by simp [kid] at h
 | .w ..,_,_,_,_,h,_=>by simp [kid] at h
 | .a ..,_,_,_,_,h,_=>by simp [kid] at h
 | .z,_,_,_,_,h,_=>by simp [kid] at h
 | .ns,_,_,_,_,h,_=>by simp [kid] at h
 | .np,_,_,_,_,h,_=>by simp [kid] at h
 | .nm,_,_,_,_,h,_=>by simp [kid] at h
 | .nf,_,_,_,_,h,_=>by simp [kid] at h
 | .f ..,_,_,_,_,h,_=>by simp [kid] at h
 | .ag ..,_,_,_,_,h,_=>by simp [kid] at h
 | .tp ..,_,_,_,_,h,_=>by simp [kid] at h
 | .nil,_,_,_,_,h,_=>by simp [kid] at h
theorem Dh:∀{ps:List PS} {x y:AV} {cs:List Value},nav ps x=some y→cr β ρ ok w false x cs →
  cr β ρ ok w false y ((cs.drop (J4 ps)).take y.size)∧J4 ps+y.size≤cs.length
 | [],x,y,cs,h,hc=>by
  simp [nav] at h; subst h
  have:=Us hc
  simp only [J4,List.drop_zero]
  rw [List.take_of_length_le (by omega)]
  exact ⟨hc,by omega⟩
 | .f k off::ps,x,y,cs,h,hc=>by
  simp only [nav] at h
  split at h
  ·rename_i l hl
   split at h
   ·rename_i y' o hk
    cases hb:Nat.beq o off with
    | false=>rw [hb] at h; cases h
    | true =>
     rw [hb] at h
     simp only [cond_true] at h
     have:=Nat.eq_of_beq_eq_true hb
     subst this
     obtain ⟨h1,h2⟩:=Qs0 hk (Ol hl hc)
     obtain ⟨h3,h4⟩:=Dh h h1
     have hl:=Us h1
     rw [hl] at h4
     refine ⟨?_,by simp only [J4,PS.off]; omega⟩
     simp only [J4,PS.off]
     rw [List.drop_take,List.drop_drop,List.take_take] at h3
     rwa [Nat.min_eq_left (by omega)] at h3
   ·cases h
  ·cases h
 | .i _ _::_,_,_,_,h,_=>by simp [nav] at h
theorem Om {g:AV→Option AV} {off:Nat} {ds:List Value}
  (hg:∀{c c':AV} {cs:List Value},g c=some c'→cr β ρ ok w false c cs→cr β ρ ok w false c' (cs.take off++ds++cs.drop (off+ds.length))∧off+ds.length≤cs.length) :
  ∀{l l':AV} {k o:Nat} {cs:List Value},Un g l k=some (l',o)→cr β ρ ok w false l cs →
   cr β ρ ok w false l' (cs.take (o+off)++ds++cs.drop (o+off+ds.length))∧o+off+ds.length≤cs.length
 | .cons x r,l',0,o,cs,h,⟨c1,c2,e,h1,h2⟩=>by
  simp only [Un] at h
  split at h
  ·rename_i y hy
   simp at h
   obtain ⟨rfl,rfl⟩:=h
   obtain ⟨h3,h4⟩:=hg hy h1
   subst e
   refine ⟨⟨_,c2,?_,h3,h2⟩,by rw [List.length_append]; omega⟩
   rw [Nat.zero_add,List.take_append_of_le_length (by omega),List.drop_append_of_le_length (by omega)]
   simp only [List.append_assoc]
  ·cases h
 | .cons x r,l',k+1,o,cs,h,⟨c1,c2,e,h1,h2⟩=>by
  simp only [Un] at h
  split at h
  ·rename_i r' o' hr
   simp at h
   obtain ⟨rfl,rfl⟩:=h
   obtain ⟨h3,h4⟩:=Om hg hr h2
   subst e
   have hl:=Us h1
   refine ⟨⟨c1,_,?_,h1,h3⟩,by rw [List.length_append,hl]; omega⟩
   have e1:x.size+o'+off=c1.length+(o'+off):=by rw [hl]; omega
   rw [e1,List.take_append,List.take_of_length_le (by omega),Nat.add_sub_cancel_left]
   simp only [List.append_assoc]
   congr 3
   rw [Nat.add_assoc,←List.drop_drop,List.drop_left]
  ·cases h
 | .d ..,_,_,_,_,h,_=>by simp [Un] at h
 | .p ..,_,_,_,_,h,_=>by simp [Un] at h
 | .e ..,_,_,_,_,h,_=>by simp [Un] at h
 | .s ..,_,_,_,_,h,_=>by simp [Un] at h
 | .m ..,_,_,_,_,h,_=>by simp [Un] at h
 | .w ..,_,_,_,_,h,_=>by simp [Un] at h
 | .a ..,_,_,_,_,h,_=>by simp [Un] at h
 | .z,_,_,_,_,h,_=>by simp [Un] at h
 | .ns,_,_,_,_,h,_=>by simp [Un] at h
 | .np,_,_,_,_,h,_=>by simp [Un] at h
 | .nm,_,_,_,_,h,_=>by simp [Un] at h
 | .nf,_,_,_,_,h,_=>by simp [Un] at h
 | .f ..,_,_,_,_,h,_=>by simp [Un] at h
 | .ag ..,_,_,_,_,h,_=>by simp [Un] at h
 | .tp ..,_,_,_,_,h,_=>by simp [Un] at h
 | .nil,_,_,_,_,h,_=>by simp [Un] at h
theorem Wh {new:AV} {ds:List Value} (hn:cr β ρ ok w false new ds):∀{ps:List PS} {cur av':AV} {cs:List Value},Cl ps cur new=some av'→cr β ρ ok w false cur cs →
  cr β ρ ok w false av' (cs.take (J4 ps)++ds++cs.drop (J4 ps+ds.length))∧J4 ps+ds.length≤cs.length
 | [],cur,av',cs,h,hc=>by
  simp only [Cl] at h
  cases hb:M6 cur new with
  | false=>rw [hb] at h; cases h
  | true =>
   rw [hb] at h
   simp at h; subst h
   simp only [M6,Bool.and_eq_true] at hb
   have h1:=Nat.eq_of_beq_eq_true hb.1.1.1
   have h2:=Us hn
   have h3:=Us hc
   simp only [J4,List.take_zero,List.nil_append,Nat.zero_add]
   rw [List.drop_of_length_le (by omega),List.append_nil]
   exact ⟨hn,by omega⟩
 | .f k off::ps,cur,av',cs,h,hc=>by
  simp only [Cl] at h
  split at h
  ·rename_i l hl
   split at h
   ·rename_i l' o hk
    cases hb:Nat.beq o off with
    | false=>rw [hb] at h; cases h
    | true =>
     rw [hb] at h
     simp only [cond_true,Option.some.injEq] at h
     have:=Nat.eq_of_beq_eq_true hb
     subst this; subst h
     have:=Om (off:=J4 ps) (ds:=ds) (fun {c c' cs'} hg hcc=>Wh hn (ps:=ps) hg hcc) hk (Ol hl hc)
     exact this
   ·cases h
  ·cases h
 | .i _ _::_,_,_,_,h,_=>by simp [Cl] at h
theorem Ip {τ:Type} {r:RT τ} {A:Option Addr} {c:Nat}:Qfh r ok w [] (.slice A 0 c):=⟨A,0,c,rfl,rfl,Nat.zero_le _,fun h=>absurd h (by omega)⟩
theorem Qdn {τ:Type} {r:RT τ} {xs:List τ} {v u:Value} (hz:zal v u) (h:isV (rSl r) ok w xs u):isV (rSl r) ok w xs v:=by
 rcases hz with rfl | ⟨h0,A,rfl⟩
 ·exact h
 ·rw [h0] at h
  have hnil:xs=[]:=by
   obtain ⟨A',c',h1,_⟩:=Fx h
   injection h1 with _ h2
   exact List.length_eq_zero_iff.1 h2.symm
  subst hnil
  exact U7.2 Ip
theorem Qs1 {τ:Type} {r:RT τ} {xs:List τ} {v u:Value} (hz:zal v u) (h:isV (rSl r) ok w xs v):isV (rSl r) ok w xs u:=by
 rcases hz with rfl | ⟨rfl,A,rfl⟩
 ·exact h
 ·have hnil:xs=[]:=by
   obtain ⟨A',c',h1,_⟩:=Fx h
   injection h1 with _ h2
   exact List.length_eq_zero_iff.1 h2.symm
  subst hnil
  exact U7.2 Ip
theorem Ut {M:List (Nat×Ob)} (hM:∀id o,Qe M id=some o→(Q2 β ρ id o).p ok w) :
  ∀{x:AV} {t:Ty} {y:t.De} {cs:List Value},asD M x t=some y→cr β ρ ok w false x cs→(rt t).rep ok w y cs
 | .d t x,u,y,cs,h,hc=>by
  obtain ⟨rfl,rfl⟩:=Ty.cast_ok (by simpa only [asD] using h)
  exact hc
 | .ns,u,y,cs,h,hc=>by
  cases u<;>simp [asD] at h
  subst h
  exact ⟨_,hc,Ip⟩
 | .z,u,y,cs,h,⟨A,hc⟩=>by
  cases u<;>simp [asD] at h
  subst h
  exact ⟨_,hc,Ip⟩
 | .s id,u,y,cs,h,hc=>by
  cases u<;>simp [asD] at h
  rename_i e
  split at h
  ·rename_i e' t xs ho
   obtain ⟨he,rfl⟩:=Ty.cast_ok h
   injection he with he
   subst he
   have:=(hM _ _ ho).1
   obtain ⟨⟨v,hv,hz⟩,_⟩:=hc
   exact ⟨_,hv,U7.1 (Qdn hz this)⟩
  ·cases h
 | .ag l,u,y,cs,h,hc=>by
  cases u<;>simp only [asD] at h<;>first | (cases h; done) | skip
  ·rename_i fs
   exact Ut hM (x:=l) (t:=fs) h hc
  ·rename_i fs
   split at h
   ·rename_i y hy
    simp at h; subst h
    obtain ⟨c1,c2,rfl,h1,h2⟩:=Qmn (Ut hM (x:=l) hy hc)
    exact Qsw h1 h2
   ·cases h
 | .nil,u,y,cs,h,hc=>by
  cases u<;>simp [asD] at h
  exact hc
 | .cons x r,u,y,cs,h,⟨c1,c2,e,h1,h2⟩=>by
  have key:∀{v:Ty} {z:v.De},r=.nil→asD M x v=some z→(rt v).rep ok w z cs:=by
   intro v z hr hx
   subst hr
   have:c2=[]:=h2
   subst this; subst e
   rw [List.append_nil]
   exact Ut hM hx h1
  cases u with
  | pr f g =>
   simp only [asD] at h
   split at h
   ·rename_i a b ha hb
    simp at h; subst h
    exact ⟨c1,c2,e,Ut hM ha h1,Ut hM hb h2⟩
   ·cases h
  | unit=>simp [asD] at h
  | int k=>cases r<;>simp [asD] at h; exact key rfl h
  | bool=>cases r<;>simp [asD] at h; exact key rfl h
  | str=>cases r<;>simp [asD] at h; exact key rfl h
  | sl e=>cases r<;>simp [asD] at h; exact key rfl h
  | arr n e=>cases r<;>simp [asD] at h; exact key rfl h
  | st fs=>cases r<;>simp [asD] at h; exact key rfl h
  | ref=>cases r<;>simp [asD] at h
  | rose fs=>cases r<;>simp only [asD] at h<;>first | (cases h; done) | exact key rfl h
 | .p ..,u,_,_,h,_=>by cases u<;>simp [asD] at h
 | .e ..,u,_,_,h,_=>by cases u<;>simp [asD] at h
 | .m ..,u,_,_,h,_=>by cases u<;>simp [asD] at h
 | .w ..,u,_,_,h,_=>by cases u<;>simp [asD] at h
 | .a ..,u,_,_,h,_=>by cases u<;>simp [asD] at h
 | .np,u,_,_,h,_=>by cases u<;>simp [asD] at h
 | .nm,u,_,_,h,_=>by cases u<;>simp [asD] at h
 | .nf,u,_,_,h,_=>by cases u<;>simp [asD] at h
 | .f ..,u,_,_,h,_=>by cases u<;>simp [asD] at h
 | .tp ..,u,_,_,h,_=>by cases u<;>simp [asD] at h
end
end Gx

/- The quiet operations. -/
namespace Gx
open Go Go.RowKit Gd
set_option linter.unusedVariables false
set_option linter.unusedSimpArgs false
structure TX where
 T:Tab
 tys:List (Nat×Ty)
 gl:List (Nat×Σ t:Ty,t.De)
def lit:AV→Option Value
 | .d (.int k) n=>some (.int k n)
 | .d .bool b=>some (.bool b)
 | .d .str l=>some (Y6 l)
 | _=>none
def Qmo:Value→Option AV
 | .int k n=>some (.d (.int k) n)
 | .bool b=>some (.d .bool b)
 | .string ⟨⟨l⟩⟩=>some (.d .str l)
 | _=>none
def nth:AV→Nat→Option AV
 | .cons x _,0=>some x
 | .cons _ r,k+1=>nth r k
 | _,_=>none
def evs (S:St) (cur:Vy):List Operand→Option AV
 | []=>some .nil
 | x::xs=>match ev S cur x,evs S cur xs with
  | some v,some r=>some (.cons v r)
  | _,_=>none
def Qs2 (c:Bool) (x y:Option AV):Option AV :=
 match x,y with
 | some (.d .bool p),some (.d .bool q)=>some (.d .bool (bif c then p else q))
 | some (.d (.int k) p),some (.d (.int k') q)=>bif F8 k k' then some (.d (.int k) (bif c then p else q)) else none
 | _,_=>match c with
  | true=>x
  | false=>y
def Qmp (cur:Vy) (c:Operand) (b:Bool):Vy:=match c with
 | .tmp t=>(t,b)::cur
 | _=>cur
def Zf:AV→Option (IntKind×Int)
 | .d (.int k) n=>some (k,n)
 | _=>none
def Qf0 (M:List (Nat×Ob)):AV→Option Nat
 | .d (.sl _) xs=>some xs.length
 | .d .str l=>some l.length
 | .ns=>some 0
 | .z=>some 0
 | .s id=>match Qe M id with
  | some (.row _ _ xs)=>some xs.length
  | some (.tail _ _ xs)=>some xs.length
  | _=>none
 | .w _ _ n=>some n.toNat
 | _=>none
def Qf1 {α:Type} (f:List Value→Option (α×List Value)):Nat→List Value→Option (List α×List Value)
 | 0,cs=>some ([],cs)
 | n+1,cs=>match f cs with
  | some (y,r)=>match Qf1 f n r with
   | some (ys,r')=>some (y::ys,r')
   | none=>none
  | none=>none
def Di:Ty→List Value→Option (AV×List Value)
 | .arr n e,cs=>match Qf1 (fun cs=>match Di e cs with
   | some (x,r)=>(match asD [] x e with
    | some y=>some (y,r)
    | none=>none)
   | none=>none) n cs with
  | some (l,r)=>some (.d (.arr n e) l,r)
  | none=>none
 | .st fs,cs=>match Di fs cs with
  | some (l,r)=>bif l.isVal then some (.ag (.cons l .nil),r) else some (.ag l,r)
  | none=>none
 | .pr f g,cs=>match Di f cs with
  | some (x,r)=>match Di g r with
   | some (l,r')=>bif l.isVal then some (.cons x (.cons l .nil),r') else some (.cons x l,r')
   | none=>none
  | none=>none
 | .rose fs,cs=>match Di fs cs with
  | some (l,.slice none 0 0::r)=>bif Qfy l then some (.ag (Qyq l (.cons .ns .nil)),r) else none
  | _=>none
 | .unit,cs=>some (.nil,cs)
 | _,v::cs=>match Oi v with
  | some x=>some (x,cs)
  | none=>none
 | _,[]=>none
def Ga (ty:Ty) (z:Value):Option AV:=match Di ty (Qm z) with
 | some (x,[])=>some x
 | _=>none
def Vb (S:St) (cur:Vy):List (Nat×Operand)→Option (List (Nat×AV))
 | []=>some []
 | (i,x)::xs=>match ev S cur x,Vb S cur xs with
  | some v,some r=>some ((i,v)::r)
  | _,_=>none
def Y7:TypeDesc→Option TypeId
 | .slice e=>some e
 | _=>none
def Fg:(t:Ty)→t.De→Option (List Value)
 | .int k,n=>some [.int k n]
 | .bool,b=>some [.bool b]
 | .str,s=>some [Y6 s]
 | .unit,_=>some []
 | .pr f r,x=>match Fg f x.1,Fg r x.2 with
  | some a,some b=>some (a++b)
  | _,_=>none
 | .st fs,x=>Fg fs x
 | _,_=>none
def Zo:AV→Option (List Value)
 | .d t x=>Fg t x
 | .ag l=>Zo l
 | .nil=>some []
 | .cons x r=>match Zo x,Zo r with
  | some a,some b=>some (a++b)
  | _,_=>none
 | _=>none
def Qp2:BinOp→Option Bool
 | .eql=>some false
 | .neq=>some true
 | _=>none
def Jkj:AV→Option Bool
 | .np=>some true
 | .p _ _=>some false
 | .e _ _=>some false
 | .a _ _=>some false
 | _=>none
def Jkk:AV→Option Bool
 | .nm=>some true
 | .m _=>some false
 | _=>none
def Jkl:AV→Option Bool
 | .nf=>some true
 | .f _ _=>some false
 | _=>none
def Jkm:AV→Bool
 | .np=>true
 | _=>false
def Jkn:AV→Bool
 | .nm=>true
 | _=>false
def Jko:AV→Bool
 | .nf=>true
 | _=>false
def Jcj (T:Tab) (op:BinOp) (t:TypeId) (x y:AV):Option Bool:=match Qp2 op,Qi T t with
 | some neg,some te=>match te.d with
  | .pointer _=>bif Jkm y then (match Jkj x with
   | some b=>some (bif neg then !b else b)
   | none=>none) else none
  | .map _ _=>bif Jkn y then (match Jkk x with
   | some b=>some (bif neg then !b else b)
   | none=>none) else none
  | .func _ _ _=>bif Jko y then (match Jkl x with
   | some b=>some (bif neg then !b else b)
   | none=>none) else none
  | _=>none
 | _,_=>none
def On:Value→Bool
 | .agg _=>true
 | _=>false
theorem Oo {t:Ty} {v:Value} (h:t.agg=On v):(rt t).val (Qm v)=v:=by
 cases v<;>simp_all [On,RT.val,W7,Qm]
def Qys:Option Ob→Option (Σ k v:Ty,List (k.De×v.De))
 | some (.map k v xs)=>some ⟨k,v,xs⟩
 | some (.mapT k v _ _ _ xs none)=>some ⟨k,v,xs⟩
 | _=>none
def asLs (M:List (Nat×Ob)) (u:Ty):List (Nat×AV)→Nat→Option (List u.De)
 | [],_=>some []
 | (i,v)::l,j=>bif Nat.beq i j&&(u.agg==v.isAgg) then (match asD M v u,asLs M u l (j+1) with
  | some x,some xs=>some (x::xs)
  | _,_=>none) else none
def M7 (Y:TX) (S:St) (cur:Vy):Op→Option AV
 | .move x | .assign x=>ev S cur x
 | .pick c a b=>match ev S cur c with
  | some (.d .bool v)=>Qs2 v (ev S (Qmp cur c true) a) (ev S (Qmp cur c false) b)
  | _=>none
 | .binOp op t x y _=>match ev S cur x,ev S cur y with
  | some x,some y=>match lit x,lit y with
   | some u,some v=>match Oe Y.T op t u v with
    | some r=>Qmo r
    | none=>none
   | _,_=>match Jcj Y.T op t x y with
    | some b=>some (.d .bool b)
    | none=>match Qp2 op,Qi Y.T t,Zo x,Zo y with
    | some neg,some ⟨_,.struct ⟨fs⟩,_,_,_⟩,some us,some vs=>bif Fy fs&&x.isAgg&&y.isAgg then (match Ss Y.T fs us vs with
     | some r=>some (.d .bool (bif neg then !r else r))
     | none=>none) else none
    | _,_,_,_=>none
  | _,_=>none
 | .unOp op _ x=>match ev S cur x with
  | some x=>match lit x with
   | some u=>match Qmg op u with
    | some r=>Qmo r
    | none=>none
   | none=>none
  | none=>none
 | .convert s t x=>match Qi Y.T s,Qi Y.T t,ev S cur x with
  | some ⟨_,.int _,_,_,_⟩,some ⟨_,.int k,_,_,_⟩,some (.d (.int _) n)=>some (.d (.int k) (k.wrap n))
  | _,_,_=>none
 | .field s x f=>match Qi Y.T s,ev S cur x with
  | some ⟨_,.struct fs,_,_,_⟩,some x=>match fs[f]? with
   | some fd=>match nav [.f f fd.offset] x,Qi Y.T fd.type with
    | some y,some e=>bif Nat.beq e.size y.size&&(Uy e.d==y.isAgg)&&x.isAgg&&y.isVal&&(y.isAgg||Nat.beq y.size 1) then some y else none
    | _,_=>none
   | none=>none
  | _,_=>none
 | .fieldAddr s x f=>match Qi Y.T s,ev S cur x with
  | some ⟨_,.struct fs,_,_,_⟩,some x=>match Mw Y.T fs f with
   | some off=>match x with
    | .p id path=>some (.p id (path++[.f f off]))
    | .e id path=>some (.e id (path++[.f f off]))
    | .a t y=>match nav [.f f off] (.d t y) with
     | some (.d u z)=>some (.a u z)
     | _=>none
    | _=>none
   | none=>none
  | _,_=>none
 | .load t x=>match Qi Y.T t,ev S cur x with
  | some e,some (.p id path)=>match Qe S.mem id with
   | some (.var _ c)=>match nav path c with
    | some y=>bif Nat.beq e.size y.size&&(Uy e.d==y.isAgg)&&y.isVal&&(y.isAgg||Nat.beq y.size 1) then some y else none
    | none=>none
   | _=>none
  | some e,some (.a t y)=>bif Nat.beq e.size t.size&&(Uy e.d==t.agg) then some (.d t y) else none
  | _,_=>none
 | .extract x i=>match ev S cur x with
  | some (.tp l)=>nth l i
  | _=>none
 | .call { callee:=.builtin .len,args:=⟨[x]⟩,argTypes:=⟨[t]⟩ }=>match Qi Y.T t,ev S cur x with
  | some e,some x=>match e.d with
   | .slice _=>match x with
    | .d .str _=>none
    | x=>match Qf0 S.mem x with
     | some n=>some (.d (.int .i64) n)
     | none=>none
   | .string=>match x with
    | .d .str l=>some (.d (.int .i64) l.length)
    | _=>none
   | .map _ _=>match x with
    | .m id=>match Qys (Qe S.mem id) with
     | some ⟨_,_,xs⟩=>some (.d (.int .i64) xs.length)
     | none=>none
    | .nm=>some (.d (.int .i64) (0:Nat))
    | _=>none
   | _=>none
  | _,_=>none
 | .call { callee:=.builtin .max,args:=⟨[x,y]⟩,argTypes:=_ }=>match ev S cur x,ev S cur y with
  | some x,some y=>match Zf x,Zf y with
   | some (k,a),some (_,b)=>some (.d (.int k) (if b>a then b else a))
   | _,_=>none
  | _,_=>none
 | .call { callee:=.builtin .min,args:=⟨[x,y]⟩,argTypes:=_ }=>match ev S cur x,ev S cur y with
  | some x,some y=>match Zf x,Zf y with
   | some (k,a),some (_,b)=>some (.d (.int k) (if b<a then b else a))
   | _,_=>none
  | _,_=>none
 | .call { callee:=.builtin .min,args:=⟨[x,y,x3]⟩,argTypes:=_ }=>match ev S cur x,ev S cur y,ev S cur x3 with
  | some x,some y,some x3=>match Zf x,Zf y,Zf x3 with
   | some (k,a),some (_,b),some (_,c)=>some (.d (.int k) (if c<(if b<a then b else a) then c else (if b<a then b else a)))
   | _,_,_=>none
  | _,_,_=>none
 | .build t ⟨parts⟩=>match Qi Y.T t,J3 Y.tys t with
  | some ⟨_,.struct ⟨fs⟩,z,_,_⟩,some ty=>match Ga ty z,Il Y.T fs,Vb S cur parts with
   | some (.ag l),some ps,some vs=>match fillP ps l vs with
    | some l'=>some (.ag l')
    | none=>none
   | _,_,_=>none
  | some ⟨_,.array _ e,z,_,_⟩,some (.arr m u)=>match Qi Y.T e,Vb S cur parts with
   | some ee,some vs=>match asLs S.mem u vs 0 with
    | some xs=>bif Nat.beq ee.size u.size&&Nat.beq xs.length m&&Nat.beq (Qm z).length (m*u.size) then some (.d (.arr m u) xs) else none
    | none=>none
   | _,_=>none
  | _,_=>none
 | .nilCheck x=>match ev S cur x with
  | some (.p id path)=>some (.p id path)
  | some (.e id path)=>some (.e id path)
  | some (.a t y)=>some (.a t y)
  | some (.f fn caps)=>some (.f fn caps)
  | _=>none
 | .makeFunc (.func f) ⟨[]⟩ ⟨caps⟩=>match evs S cur caps with
  | some l=>some (.f f l)
  | none=>none
 | .lookup t x ix c=>match Qi Y.T t,ev S cur x,ev S cur ix with
  | some te,some (.m id),some iv=>match te.d,Qys (Qe S.mem id) with
   | .map kt et,some ⟨k,v,xs⟩=>match Qi Y.T kt,Qi Y.T et,asD [] iv k with
    | some tk,some tz,some key=>match Ga v tz.z with
     | some za=>match asD [] za v with
      | some z=>bif Vk Y.T k tk.d&&(k.agg==iv.isAgg)&&(v.agg==On tz.z) then some (match c with
       | true=>.tp (.cons (.d v ((Q0 key xs).getD z)) (.cons (.d .bool (Q0 key xs).isSome) .nil))
       | false=>.d v ((Q0 key xs).getD z)) else none
      | none=>none
     | none=>none
    | _,_,_=>none
   | _,_=>none
  | _,_,_=>none
 | _=>none
where
 fillP (ps:List (Nat×Nat)) (l:AV):List (Nat×AV)→Option AV
 | []=>some l
 | (i,x)::r=>match ps[i]? with
  | some (off,size)=>match Un (fun c=>bif M6 c x then some x else none) l i with
   | some (l',o)=>bif Nat.beq o off&&Nat.beq x.size size then fillP ps l' r else none
   | none=>none
  | none=>none
section
variable {β:Nat→Nat} {ρ:Nat→Value} {ok:Ok} {w:World}
theorem Qj8 {x:AV} {v:Value} (h:lit x=some v) {cs:List Value} (hc:cr β ρ ok w false x cs):x.val cs=v:=by
 unfold lit at h
 split at h<;>first | (simp at h; done) | skip
 all_goals
  simp only [Option.some.injEq] at h
  subst h
  have hc':cs=_:=hc
  subst hc'
  rfl
theorem Qf2 {x:AV} {v:Value} (h:Qmo v=some x):∃cs,v=x.val cs∧cr β ρ ok w false x cs:=by
 unfold Qmo at h
 split at h<;>first | (simp at h; done) | skip
 all_goals
  simp only [Option.some.injEq] at h
  subst h
  exact ⟨_,rfl,rfl⟩
theorem Qs3:∀{l:AV} {k:Nat} {x:AV} {vs:List Value},nth l k=some x→cr β ρ ok w true l vs→∃cs,vs[k]?=some (x.val cs)∧cr β ρ ok w false x cs
 | .cons x r,0,y,vs,h,⟨c1,vs',h1,h2,h3⟩=>by
  simp [nth] at h; subst h; subst h1
  exact ⟨c1,rfl,h2⟩
 | .cons x r,k+1,y,vs,h,⟨c1,vs',h1,h2,h3⟩=>by
  subst h1
  obtain ⟨c2,h4,h5⟩:=Qs3 (l:=r) (k:=k) (x:=y) (by simpa only [nth] using h) h3
  exact ⟨c2,by simpa using h4,h5⟩
 | .d ..,_,_,_,h,_=>by simp [nth] at h
 | .p ..,_,_,_,h,_=>by simp [nth] at h
 | .e ..,_,_,_,h,_=>by simp [nth] at h
 | .s ..,_,_,_,h,_=>by simp [nth] at h
 | .m ..,_,_,_,h,_=>by simp [nth] at h
 | .w ..,_,_,_,h,_=>by simp [nth] at h
 | .a ..,_,_,_,h,_=>by simp [nth] at h
 | .z,_,_,_,h,_=>by simp [nth] at h
 | .ns,_,_,_,h,_=>by simp [nth] at h
 | .np,_,_,_,h,_=>by simp [nth] at h
 | .nm,_,_,_,h,_=>by simp [nth] at h
 | .nf,_,_,_,h,_=>by simp [nth] at h
 | .f ..,_,_,_,h,_=>by simp [nth] at h
 | .ag ..,_,_,_,h,_=>by simp [nth] at h
 | .tp ..,_,_,_,h,_=>by simp [nth] at h
 | .nil,_,_,_,h,_=>by simp [nth] at h
theorem G1 {x:AV} {k:IntKind} {n:Int} (h:Zf x=some (k,n)):x=.d (.int k) n:=by
 unfold Zf at h
 split at h
 ·simp at h; obtain ⟨rfl,rfl⟩:=h; rfl
 ·cases h
theorem Qyt {M:List (Nat×Ob)} (hM:∀id o,Qe M id=some o→(Q2 β ρ id o).p ok w) {x:AV} {n:Nat} {cs:List Value} (h:Qf0 M x=some n) (hs:∀l,x≠.d .str l) (hc:cr β ρ ok w false x cs) :
  ∃A c,x.val cs=.slice A n c:=by
 cases x with
 | d t y =>
  cases t<;>simp [Qf0] at h
  ·exact absurd rfl (hs _)
  ·subst h
   obtain ⟨v,rfl,A,m,c,rfl,rfl,_⟩:=hc
   exact ⟨A,c,rfl⟩
 | s id =>
  simp only [Qf0] at h
  obtain ⟨⟨v,rfl,hz⟩,A,m,c,hv⟩:=hc
  suffices hm:m=n by
   subst hm
   rcases hz with rfl | ⟨h0,A',rfl⟩
   ·exact ⟨A,c,hv⟩
   ·rw [hv] at h0
    injection h0 with _ h1
    exact ⟨A',0,by rw [h1]; rfl⟩
  split at h<;>first | (simp at h; done) | skip
  ·rename_i ho
   simp at h; subst h
   have:=(hM _ _ ho).1
   rw [hv] at this
   exact this
  ·rename_i ho
   simp at h; subst h
   have:=(hM _ _ ho).1
   rw [hv] at this
   obtain ⟨A',c',h1,_⟩:=Fx this
   injection h1 with h1 h2 h3
 | ns=>simp [Qf0] at h; subst h; have:cs=_:=hc; subst this; exact ⟨_,_,rfl⟩
 | w id j m=>simp [Qf0] at h; subst h; obtain ⟨A,c,rfl,_⟩:=hc; exact ⟨_,_,rfl⟩
 | z=>simp [Qf0] at h; subst h; obtain ⟨A,rfl⟩:=hc; exact ⟨_,_,rfl⟩
 | _=>simp [Qf0] at h
theorem Qf3 {τ:Type} {r:RT τ} {f:List Value→Option (τ×List Value)} (hf:∀{cs r':List Value} {y:τ},f cs=some (y,r')→∃c1,cs=c1++r'∧r.rep ok w y c1) :
  ∀{n:Nat} {cs r':List Value} {ys:List τ},Qf1 f n cs=some (ys,r')→∃c1,cs=c1++r'∧ys.length=n∧Z9 r ok w ys c1
 | 0,cs,r',ys,h=>by simp [Qf1] at h; obtain ⟨rfl,rfl⟩:=h; exact ⟨[],rfl,rfl,rfl⟩
 | n+1,cs,r',ys,h=>by
  simp only [Qf1] at h
  split at h
  ·rename_i y r1 h1
   split at h
   ·rename_i ys' r2 h2
    simp at h; obtain ⟨rfl,rfl⟩:=h
    obtain ⟨c1,rfl,p1⟩:=hf h1
    obtain ⟨c2,rfl,p2,p3⟩:=Qf3 hf h2
    exact ⟨c1++c2,by simp,by simp [p2],c1,c2,rfl,p1,p3⟩
   ·cases h
  ·cases h
theorem Iq:∀{ty:Ty} {cs r:List Value} {x:AV},Di ty cs=some (x,r)→∃c1,cs=c1++r∧cr β ρ ok w false x c1
 | .st fs,cs,r,x,h=>by
  simp only [Di] at h
  split at h
  ·rename_i l r' hl
   obtain ⟨c1,h1,h2⟩:=Iq hl
   cases hv:l.isVal with
   | true =>
    rw [hv] at h
    simp at h; obtain ⟨rfl,rfl⟩:=h
    exact ⟨c1,h1,c1,[],by simp,h2,rfl⟩
   | false =>
    rw [hv] at h
    simp at h; obtain ⟨rfl,rfl⟩:=h
    exact ⟨c1,h1,h2⟩
  ·cases h
 | .rose fs,cs,r,x,h=>by
  simp only [Di] at h
  split at h
  ·rename_i l r' hl
   cases hb:Qfy l with
   | false=>rw [hb] at h; cases h
   | true =>
    rw [hb] at h
    simp at h; obtain ⟨rfl,rfl⟩:=h
    obtain ⟨c1,h1,h2⟩:=Iq hl
    refine ⟨c1++[.slice none 0 0],by rw [h1]; simp,Qdm hb h2 ?_⟩
    exact ⟨[.slice none 0 0],[],rfl,rfl,rfl⟩
  ·cases h
 | .pr f g,cs,r,x,h=>by
  simp only [Di] at h
  split at h
  ·rename_i y r1 h1
   split at h
   ·rename_i l r2 h2
    obtain ⟨c1,rfl,hc1⟩:=Iq h1
    obtain ⟨c2,rfl,hc2⟩:=Iq h2
    cases hv:l.isVal with
    | true =>
     rw [hv] at h
     simp at h; obtain ⟨rfl,rfl⟩:=h
     exact ⟨c1++c2,by simp,c1,c2,rfl,hc1,c2,[],by simp,hc2,rfl⟩
    | false =>
     rw [hv] at h
     simp at h; obtain ⟨rfl,rfl⟩:=h
     exact ⟨c1++c2,by simp,c1,c2,rfl,hc1,hc2⟩
   ·cases h
  ·cases h
 | .unit,cs,r,x,h=>by
  simp [Di] at h; obtain ⟨rfl,rfl⟩:=h
  exact ⟨[],rfl,rfl⟩
 | .int k,cs,r,x,h=>nest1 (by cases cs<;>(simp only [Di] at h; exact h))
 | .bool,cs,r,x,h=>nest1 (by cases cs<;>(simp only [Di] at h; exact h))
 | .str,cs,r,x,h=>nest1 (by cases cs<;>(simp only [Di] at h; exact h))
 | .sl e,cs,r,x,h=>nest1 (by cases cs<;>(simp only [Di] at h; exact h))
 | .ref,cs,r,x,h=>nest1 (by cases cs<;>(simp only [Di] at h; exact h))
 | .arr n e,cs,r,x,h=>by
  simp only [Di] at h
  split at h
  ·rename_i l r' hl
   simp at h; obtain ⟨rfl,rfl⟩:=h
   obtain ⟨c1,h1,h2,h3⟩:=Qf3 (r:=rt e) (ok:=ok) (w:=w) (fun {cs r' y} hf=>by
    split at hf
    ·rename_i x r1 hx
     split at hf
     ·rename_i y' hy
      simp at hf; obtain ⟨rfl,rfl⟩:=hf
      obtain ⟨c1,p1,p2⟩:=Iq hx
      exact ⟨c1,p1,Ut (M:=[]) (by simp [Qe]) hy p2⟩
     ·cases hf
    ·cases hf) hl
   exact ⟨c1,h1,h2,h3⟩
  ·cases h
where
 nest1 {cs r:List Value} {x:AV} (h:(match cs with
  | v::cs=>match Oi v with
   | some x=>some (x,cs)
   | none=>none
  | []=>none)=some (x,r)):∃c1,cs=c1++r∧cr β ρ ok w false x c1:=by
  cases cs with
  | nil=>cases h
  | cons v cs =>
   simp only at h
   split at h
   ·rename_i y hy
    simp at h; obtain ⟨rfl,rfl⟩:=h
    exact ⟨[v],rfl,(Oj hy).1⟩
   ·cases h
theorem X5 {ty:Ty} {z:Value} {x:AV} (h:Ga ty z=some x):cr β ρ ok w false x (Qm z):=by
 unfold Ga at h
 split at h
 ·rename_i y hy
  simp at h; subst h
  obtain ⟨c1,h1,h2⟩:=Iq hy
  rw [h1,List.append_nil]; exact h2
 ·cases h
inductive Qp3 {α β:Type} (R:α→β→Prop):List α→List β→Prop
 | nil:Qp3 R [] []
 | cons {a:α} {b:β} {l:List α} {m:List β} (h:R a b) (t:Qp3 R l m):Qp3 R (a::l) (b::m)
theorem Qf4 (ps:List (Nat×Nat)):∀{vs:List (Nat×AV)} {us:List (Nat×Value)} {l l':AV} {cs:List Value},M7.fillP ps l vs=some l' →
  cr β ρ ok w false l cs→Qp3 (fun (p:Nat×AV) (q:Nat×Value)=>p.1=q.1∧∃c,q.2=p.2.val c∧cr β ρ ok w false p.2 c) vs us →
  ∃cs',Hk (fun i=>ps[i]?) cs us=some cs'∧cr β ρ ok w false l' cs'
 | [],_,l,l',cs,h,hc,.nil=>by simp [M7.fillP] at h; subst h; exact ⟨cs,rfl,hc⟩
 | (i,x)::vs,_,l,l',cs,h,hc,@Qp3.cons _ _ _ _ q _ us hq hr=>by
  obtain ⟨j,v⟩:=q
  obtain ⟨rfl,c,hv,hcx⟩:=hq
  simp only at hv hcx
  simp only [M7.fillP] at h
  split at h
  ·rename_i off size hp
   split at h
   ·rename_i l1 o hu
    cases hb:(Nat.beq o off&&Nat.beq x.size size) with
    | false=>rw [hb] at h; cases h
    | true =>
     rw [hb] at h
     simp only [Bool.and_eq_true] at hb
     have e1:=Nat.eq_of_beq_eq_true hb.1
     have e2:=Nat.eq_of_beq_eq_true hb.2
     subst e1; subst e2
     simp only [cond_true] at h
     have hg:∀{c0 c':AV} {cs0:List Value},(fun c0=>bif M6 c0 x then some x else none) c0=some c'→cr β ρ ok w false c0 cs0 →
       cr β ρ ok w false c' (cs0.take 0++c++cs0.drop (0+c.length))∧0+c.length≤cs0.length:=by
      intro c0 c' cs0 h1 h2
      have:=Wh (β:=β) (ρ:=ρ) (ok:=ok) (w:=w) (new:=x) (ds:=c) hcx (ps:=[]) (cur:=c0) (av':=c') (by simpa [Cl] using h1) h2
      simpa [J4] using this
     have hx:x.inMem=true∧x.isVal=true:=by
      have:∃c0,M6 c0 x=true:=by
       clear hr hc hp h hb hg
       induction l generalizing i l1 o with
       | cons y r _ ihr =>
        cases i with
        | zero =>
         simp only [Un] at hu
         cases hk:M6 y x with
         | true=>exact ⟨y,hk⟩
         | false=>rw [hk] at hu; simp at hu
        | succ i =>
         simp only [Un] at hu
         split at hu
         ·rename_i r' o' hr
          exact ihr _ _ _ hr
         ·cases hu
       | _=>simp [Un] at hu
      obtain ⟨c0,hc0⟩:=this
      simp only [M6,Bool.and_eq_true] at hc0
      exact ⟨hc0.1.1.2,hc0.1.2⟩
     obtain ⟨h3,h4⟩:=Om (off:=0) (ds:=c) hg hu hc
     have hcl:Qm v=c:=by rw [hv]; exact Kb hcx hx.2 hx.1
     have hlen:=Us hcx
     obtain ⟨cs',h5,h6⟩:=Qf4 ps h h3 hr
     refine ⟨cs',?_,h6⟩
     simp only [Hk,hp,hcl]
     have hb':(Nat.beq c.length x.size&&Nat.ble (o+c.length) cs.length)=true:=by
      simp only [Bool.and_eq_true]
      exact ⟨by rw [hlen]; exact Nat.beq_refl _,Nat.ble_eq_true_of_le (by omega)⟩
     rw [hb']
     simp only [cond_true,Qfk]
     simpa using h5
   ·cases h
  ·cases h
end
end Gx
