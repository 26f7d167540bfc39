/- Decompilation core: typed readings of values, the state of a walk, and its frame. -/
import Derived.WalkKit
import Derived.KernelRfl
import Derived.Lib.AppendStr
import Derived.Lib.ConvBytes
namespace Go
def Qfs (fz:Nat×Nat) (n:Nat):Prop:=fz=(0,0)∨fz=(n,n+1)
def World.ownsRowS (w:World) (base:Nat) (e:TypeId) (size:Nat) (v:Value) (n:Nat) (xs:List Value):Prop :=
  xs.length=n*size ∧
  ((v=.slice none 0 0∧n=0) ∨
   ∃g cap cur fz,v=.slice (some ⟨g,0,none⟩) n cap∧base≤g∧w.heap[g]?=some (.cells cur e fz)∧Qfs fz cur.size∧n≤cap∧cap≤maxLen∧cap*size≤cur.size∧cur.toList.take (n*size)=xs)
section
variable {w:World} {base:Nat} {e:TypeId} {size:Nat} {v:Value} {n:Nat} {xs:List Value}
theorem World.ownsRowS_nil (w:World) (base:Nat) (e:TypeId) (size:Nat):w.ownsRowS base e size (.slice none 0 0) 0 []:=⟨by simp,.inl ⟨rfl,rfl⟩⟩
theorem World.ownsRowS.lt (h:w.ownsRowS base e size v n xs):∀k,v.ownBlock=some k→base≤k∧k<w.heap.size:=by
 intro k hk
 rcases h.2 with ⟨rfl,_⟩ | ⟨g,cap,cur,fz,rfl,hb,hg,_⟩
 ·simp [Value.ownBlock] at hk
 ·simp [Value.ownBlock] at hk
  subst hk
  exact ⟨hb,(Array.getElem?_eq_some_iff.1 hg).1⟩
theorem World.ownsRowS.cells (h:w.ownsRowS base e size v n xs) {g:Nat} (hg:v.ownBlock=some g):∀j u,xs[j]?=some u→w.cell? ((⟨g,0,none⟩:Addr).add j)=some u:=by
 intro j u hu
 rcases h.2 with ⟨rfl,_⟩ | ⟨g',cap,cur,fz,rfl,_,hgg,_,_,_,_,htake⟩
 ·simp [Value.ownBlock] at hg
 ·simp [Value.ownBlock] at hg
  subst hg
  have hadd:(⟨g',0,none⟩:Addr).add j=⟨g',j,none⟩:=by unfold Addr.add; split<;>simp_all
  rw [hadd,cell_of_row w g' j cur e fz hgg]
  rw [←htake,List.getElem?_take] at hu
  split at hu
  ·simpa using hu
  ·cases hu
end
theorem Vz (P:Program) (g o:Nat) (t:TypeId) (fz:Nat×Nat):∀(vs:List Value) (i:Nat) (cur:Array Value) (w:World),w.heap[g]?=some (.cells cur t fz)→Qfs fz cur.size→o+i+vs.length≤cur.size→(∀v∈vs,v.oneCell'=true) →
  (storeCells ⟨g,o,none⟩ vs i).run P w=.ok () (w.setRow g (cur.toList.take (o+i)++vs++cur.toList.drop (o+i+vs.length)).toArray)
 | [],i,cur,w,hg,_,_,_=>by
  simp only [storeCells,List.append_nil,List.length_nil,Nat.add_zero,List.take_append_drop,Array.toArray_toList]
  rw [setRow_self w g cur t fz hg]
  rfl
 | v::rest,i,cur,w,hg,hfz,hl,h1=>by
  have hi:o+i<cur.size:=by simp at hl; omega
  have hadd:(⟨g,o,none⟩:Addr).add i=⟨g,o+i,none⟩:=by unfold Addr.add; split<;>simp_all
  have hcell:w.cell? ⟨g,o+i,none⟩=some cur[o+i]:=by simp [World.cell?,hg,hi]
  have hfro:w.frozen? ⟨g,o+i,none⟩=false:=by
   rcases hfz with rfl | rfl
   ·simp [World.frozen?,hg]
   ·simp only [World.frozen?,hg,Bool.and_eq_false_iff,decide_eq_false_iff_not]
    left
    omega
  have hst:(store ((⟨g,o,none⟩:Addr).add i) v).run P w=.ok () (w.setRow g (cur.setIfInBounds (o+i) v)):=by
   rw [hadd,run_store P w _ v _ (h1 v (by simp)),hcell]
   simp [hfro,setCell_eq_setRow w g (o+i) cur t fz v hg]
  have ih:=Vz P g o t fz rest (i+1) (cur.setIfInBounds (o+i) v) (w.setRow g (cur.setIfInBounds (o+i) v)) (setRow_heap w g cur _ t _ hg) (by simpa using hfz) (by simp at hl ⊢; omega) (fun x hx=>h1 x (by simp [hx]))
  simp only [storeCells,Sem.run_bind,hst,Result.andThen_ok,ih,setRow_setRow]
  congr 3
  have e:=list_seg_step cur.toList (o+i) v rest (by simp at hl ⊢; omega)
  simpa [Array.toList_setIfInBounds,Nat.add_assoc] using e
end Go
namespace Gd
open Go Go.RowKit
set_option linter.unusedVariables false
set_option linter.unusedSimpArgs false
abbrev Ok:=Nat→Nat→Prop
structure Evo (ok:Ok) (w w':World):Prop where
 size:w.heap.size≤w'.heap.size
 cell:∀b o,ok b o→w'.cell? ⟨b,o,none⟩=w.cell? ⟨b,o,none⟩
 map:∀b es c,ok b 0→w.heap[b]?=some (.map es c)→w'.heap[b]?=some (.map es c)
theorem Evo.refl (ok:Ok) (w:World):Evo ok w w:=⟨Nat.le_refl _,fun _ _ _=>rfl,fun _ _ _ _ h=>h⟩
def lt (w:World):Ok:=fun b _=>b<w.heap.size
theorem Evo.of_below {w w':World} (h:Below w.heap.size w w'):Evo (lt w) w w' :=
 ⟨h.size,fun b o hb=>h.cell (p:=⟨b,o,none⟩) hb,fun b es c hb hm=>by rw [h.block b hb]; exact hm⟩
theorem Evo.mono {ok ok':Ok} {w w':World} (h:Evo ok' w w') (hk:∀b o,ok b o→ok' b o):Evo ok w w' :=
 ⟨h.size,fun b o hb=>h.cell b o (hk b o hb),fun b es c hb hm=>h.map b es c (hk b 0 hb) hm⟩
theorem Evo.trans {ok:Ok} {w w1 w2:World} (h:Evo ok w w1) (k:Evo ok w1 w2):Evo ok w w2 :=
 ⟨Nat.le_trans h.size k.size,fun b o hb=>(k.cell b o hb).trans (h.cell b o hb),fun b es c hb hm=>k.map b es c hb (h.map b es c hb hm)⟩
theorem Evo.of_blocks {ok:Ok} {w w':World} (hs:w.heap.size≤w'.heap.size) (h:∀b o,ok b o→w'.heap[b]?=w.heap[b]?):Evo ok w w' :=
 ⟨hs,fun b o hb=>World.cell?_of_block (w:=w) (h b o hb),fun b es c hb hm=>by rw [h b 0 hb]; exact hm⟩
structure Vq (L:List Nat) (B:Nat) (w w':World):Prop where
 os:w'.os=w.os
 tape:w'.tape=w.tape
 output:w'.output=w.output
 size:w.heap.size≤w'.heap.size
 block:∀k,k<B→k∉L→w'.heap[k]?=w.heap[k]?
theorem Vq.refl (L:List Nat) (B:Nat) (w:World):Vq L B w w:=⟨rfl,rfl,rfl,Nat.le_refl _,fun _ _ _=>rfl⟩
theorem Vq.of (L:List Nat) {B:Nat} {w w':World} (h:Below B w w'):Vq L B w w':=⟨h.os,h.tape,h.output,h.size,fun k hk _=>h.block k hk⟩
theorem Vq.nil {B:Nat} {w w':World} (h:Vq [] B w w'):Below B w w':=⟨h.os,h.tape,h.output,h.size,fun k hk=>h.block k hk (by simp)⟩
theorem Vq.trans {L:List Nat} {B:Nat} {a b c:World} (h:Vq L B a b) (k:Vq L B b c):Vq L B a c :=
 ⟨k.os.trans h.os,k.tape.trans h.tape,k.output.trans h.output,Nat.le_trans h.size k.size,fun i hi hn=>(k.block i hi hn).trans (h.block i hi hn)⟩
theorem Vq.mono {L:List Nat} {B B':Nat} {w w':World} (h:Vq L B w w') (hB:B'≤B):Vq L B' w w':=⟨h.os,h.tape,h.output,h.size,fun k hk hn=>h.block k (Nat.lt_of_lt_of_le hk hB) hn⟩
theorem Vq.drew {L:List Nat} {B:Nat} {a w:World} (h:Vq L B a w):Vq L B a w.drew:=⟨h.os,h.tape,h.output,h.size,h.block⟩
structure RT (τ:Type) where
 size:Nat
 agg:Bool
 rep:Ok→World→τ→List Value→Prop
 len:∀{ok w x cs},rep ok w x cs→cs.length=size
 one:agg=false→size=1
 flat:∀{ok w x cs},rep ok w x cs→∀c∈cs,c.oneCell'=true
 evo:∀{ok w w' x cs},rep ok w x cs→Evo ok w w'→rep ok w' x cs
 weak:∀{ok ok' w x cs},rep ok w x cs→(∀b o,ok b o→ok' b o)→rep ok' w x cs
def RT.val {τ:Type} (r:RT τ) (cs:List Value):Value:=if r.agg then .agg cs.toArray else cs.headD undef
def isV {τ:Type} (r:RT τ) (ok:Ok) (w:World) (x:τ) (v:Value):Prop:=∃cs,r.rep ok w x cs∧v=r.val cs
theorem isV.evo {τ:Type} {r:RT τ} {ok:Ok} {w w':World} {x:τ} {v:Value} (h:isV r ok w x v) (he:Evo ok w w'):isV r ok w' x v :=
 let ⟨cs,hr,hv⟩:=h; ⟨cs,r.evo hr he,hv⟩
theorem isV.weak {τ:Type} {r:RT τ} {ok ok':Ok} {w:World} {x:τ} {v:Value} (h:isV r ok w x v) (hk:∀b o,ok b o→ok' b o):isV r ok' w x v :=
 let ⟨cs,hr,hv⟩:=h; ⟨cs,r.weak hr hk,hv⟩
def W0 (ok:Ok) (w:World) (b o:Nat) (cs:List Value):Prop:=∀(j:Nat) u,cs[j]?=some u→ok b (o+j)∧w.cell? ⟨b,o+j,none⟩=some u
theorem W0.evo {ok:Ok} {w w':World} {b o:Nat} {cs:List Value} (h:W0 ok w b o cs) (he:Evo ok w w'):W0 ok w' b o cs :=
 fun j u hu=>⟨(h j u hu).1,(he.cell _ _ (h j u hu).1).trans (h j u hu).2⟩
theorem W0.weak {ok ok':Ok} {w:World} {b o:Nat} {cs:List Value} (h:W0 ok w b o cs) (hk:∀b o,ok b o→ok' b o):W0 ok' w b o cs :=
 fun j u hu=>⟨hk _ _ (h j u hu).1,(h j u hu).2⟩
def I8 {τ:Type} (r:RT τ) (ok:Ok) (w:World) (x:τ) (p:Value):Prop :=
 ∃b o cs,p=.pointer (some ⟨b,o,none⟩)∧r.rep ok w x cs∧W0 ok w b o cs
theorem I8.evo {τ:Type} {r:RT τ} {ok:Ok} {w w':World} {x:τ} {v:Value} (h:I8 r ok w x v) (he:Evo ok w w'):I8 r ok w' x v :=
 let ⟨b,o,cs,hv,hr,hc⟩:=h; ⟨b,o,cs,hv,r.evo hr he,hc.evo he⟩
theorem I8.weak {τ:Type} {r:RT τ} {ok ok':Ok} {w:World} {x:τ} {v:Value} (h:I8 r ok w x v) (hk:∀b o,ok b o→ok' b o):I8 r ok' w x v :=
 let ⟨b,o,cs,hv,hr,hc⟩:=h; ⟨b,o,cs,hv,r.weak hr hk,hc.weak hk⟩
def E2 (k:IntKind):RT Int where
 size:=1
 agg:=false
 rep:=fun _ _ x cs=>cs=[.int k x]
 len:=by rintro _ _ x cs rfl; rfl
 one:=fun _=>rfl
 flat:=by rintro _ _ x cs rfl c hc; simp at hc; subst hc; rfl
 evo:=fun h _=>h
 weak:=fun h _=>h
def Qbt:RT Bool where
 size:=1
 agg:=false
 rep:=fun _ _ x cs=>cs=[.bool x]
 len:=by rintro _ _ x cs rfl; rfl
 one:=fun _=>rfl
 flat:=by rintro _ _ x cs rfl c hc; simp at hc; subst hc; rfl
 evo:=fun h _=>h
 weak:=fun h _=>h
abbrev Str:=List UInt8
def Yu (s:Str):Value:=.string ⟨s.toArray⟩
def Q4p:RT Str where
 size:=1
 agg:=false
 rep:=fun _ _ x cs=>cs=[Yu x]
 len:=by rintro _ _ x cs rfl; rfl
 one:=fun _=>rfl
 flat:=by rintro _ _ x cs rfl c hc; simp at hc; subst hc; rfl
 evo:=fun h _=>h
 weak:=fun h _=>h
def Sh {τ:Type} (r:RT τ) (ok:Ok) (w:World) (xs:List τ) (v:Value):Prop :=
 ∃A n c,v=.slice A n c∧xs.length=n∧n≤c ∧
  (0<n→∃b o,A=some ⟨b,o,none⟩∧∀i x,xs[i]?=some x→∃cs,r.rep ok w x cs∧W0 ok w b (o+i*r.size) cs)
def rSl {τ:Type} (r:RT τ):RT (List τ) where
 size:=1
 agg:=false
 rep:=fun ok w xs cs=>∃v,cs=[v]∧Sh r ok w xs v
 len:=by rintro _ _ x cs ⟨v,rfl,_⟩; rfl
 one:=fun _=>rfl
 flat:=by rintro _ _ x cs ⟨v,rfl,A,n,c,rfl,_⟩ d hd; simp at hd; subst hd; rfl
 evo:=by
  rintro ok w w' xs cs ⟨v,rfl,A,n,c,rfl,hl,hc,hn⟩ he
  refine ⟨_,rfl,A,n,c,rfl,hl,hc,fun h0=>?_⟩
  obtain ⟨b,o,hA,hx⟩:=hn h0
  refine ⟨b,o,hA,fun i x hi=>?_⟩
  obtain ⟨cs,hr,ha⟩:=hx i x hi
  exact ⟨cs,r.evo hr he,ha.evo he⟩
 weak:=by
  rintro ok ok' w xs cs ⟨v,rfl,A,n,c,rfl,hl,hc,hn⟩ hk
  refine ⟨_,rfl,A,n,c,rfl,hl,hc,fun h0=>?_⟩
  obtain ⟨b,o,hA,hx⟩:=hn h0
  refine ⟨b,o,hA,fun i x hi=>?_⟩
  obtain ⟨cs,hr,ha⟩:=hx i x hi
  exact ⟨cs,r.weak hr hk,ha.weak hk⟩
theorem Qh5 {k:IntKind} {ok:Ok} {w:World} {x:Int} {v:Value}:isV (E2 k) ok w x v↔v=.int k x:=by
 constructor
 ·rintro ⟨cs,rfl,rfl⟩; rfl
 ·rintro rfl; exact ⟨_,rfl,rfl⟩
theorem N1 {ok:Ok} {w:World} {x:Bool} {v:Value}:isV Qbt ok w x v↔v=.bool x:=by
 constructor
 ·rintro ⟨cs,rfl,rfl⟩; rfl
 ·rintro rfl; exact ⟨_,rfl,rfl⟩
theorem Qs5 {ok:Ok} {w:World} {x:Str} {v:Value}:isV Q4p ok w x v↔v=Yu x:=by
 constructor
 ·rintro ⟨cs,rfl,rfl⟩; rfl
 ·rintro rfl; exact ⟨_,rfl,rfl⟩
theorem Uh {τ:Type} {r:RT τ} {ok:Ok} {w:World} {xs:List τ} {v:Value}:isV (rSl r) ok w xs v↔Sh r ok w xs v:=by
 constructor
 ·rintro ⟨cs,⟨v',rfl,h⟩,rfl⟩; exact h
 ·intro h; exact ⟨[v],⟨v,rfl,h⟩,rfl⟩
structure Fld (σ:Type) where
 τ:Type
 r:RT τ
 get:σ→τ
def Q32 {σ:Type}:List (Fld σ)→Nat
 | []=>0
 | f::fs=>f.r.size+Q32 fs
def G2 {σ:Type} (fs:List (Fld σ)) (i:Nat):Nat:=Q32 (fs.take i)
def Zz {τ:Type} (r:RT τ) (ok:Ok) (w:World):List τ→List Value→Prop
 | [],cs=>cs=[]
 | x::xs,cs=>∃c1 c2,cs=c1++c2∧r.rep ok w x c1∧Zz r ok w xs c2
theorem Qbu {τ:Type} {r:RT τ} {ok:Ok} {w:World} {xs:List τ} {cs:List Value} (h:Zz r ok w xs cs):cs.length=xs.length*r.size:=by
 induction xs generalizing cs with
 | nil=>simp only [Zz] at h; subst h; simp
 | cons x xs ih=>obtain ⟨c1,c2,rfl,h1,h2⟩:=h; simp [r.len h1,ih h2,Nat.add_mul,Nat.add_comm]
def Qn7 {τ:Type} (n:Nat) (r:RT τ):RT (List τ) where
 size:=n*r.size
 agg:=true
 rep:=fun ok w xs cs=>xs.length=n∧Zz r ok w xs cs
 len:=by rintro ok w xs cs ⟨rfl,h⟩; exact Qbu h
 one:=fun h=>by cases h
 flat:=by
  rintro ok w xs cs ⟨hl,h⟩
  clear hl
  induction xs generalizing cs with
  | nil=>simp only [Zz] at h; subst h; simp
  | cons f fs ih =>
   obtain ⟨c1,c2,rfl,h1,h2⟩:=h
   intro c hc
   rcases List.mem_append.1 hc with hc | hc
   ·exact r.flat h1 c hc
   ·exact ih h2 c hc
 evo:=by
  rintro ok w w' xs cs ⟨hl,h⟩ he
  refine ⟨hl,?_⟩
  clear hl
  induction xs generalizing cs with
  | nil=>exact h
  | cons f fs ih=>obtain ⟨c1,c2,rfl,h1,h2⟩:=h; exact ⟨c1,c2,rfl,r.evo h1 he,ih h2⟩
 weak:=by
  rintro ok ok' w xs cs ⟨hl,h⟩ he
  refine ⟨hl,?_⟩
  clear hl
  induction xs generalizing cs with
  | nil=>exact h
  | cons f fs ih=>obtain ⟨c1,c2,rfl,h1,h2⟩:=h; exact ⟨c1,c2,rfl,r.weak h1 he,ih h2⟩
structure DF where
 p:Ok→World→Prop
 evo:∀{ok w w'},p ok w→Evo ok w w'→p ok w'
 weak:∀{ok ok' w},p ok w→(∀b o,ok b o→ok' b o)→p ok' w
def DF.v {τ:Type} (r:RT τ) (x:τ) (v:Value):DF:=⟨fun ok w=>isV r ok w x v,fun h he=>h.evo he,fun h hk=>h.weak hk⟩
def DF.at {τ:Type} (r:RT τ) (x:τ) (p:Value):DF:=⟨fun ok w=>I8 r ok w x p,fun h he=>h.evo he,fun h hk=>h.weak hk⟩
def Bo (ok:Ok) (w:World):List DF→Prop
 | []=>True
 | d::ds=>d.p ok w∧Bo ok w ds
theorem Bo.evo {ok:Ok} {w w':World} {D:List DF} (h:Bo ok w D) (he:Evo ok w w'):Bo ok w' D:=by
 induction D with
 | nil=>trivial
 | cons d ds ih=>exact ⟨d.evo h.1 he,ih h.2⟩
theorem Bo.weak {ok ok':Ok} {w:World} {D:List DF} (h:Bo ok w D) (hk:∀b o,ok b o→ok' b o):Bo ok' w D:=by
 induction D with
 | nil=>trivial
 | cons d ds ih=>exact ⟨d.weak h.1 hk,ih h.2⟩
theorem Bo.get {ok:Ok} {w:World} {D:List DF} (h:Bo ok w D) {i:Nat} {d:DF} (hi:D[i]?=some d):d.p ok w:=by
 induction D generalizing i with
 | nil=>simp at hi
 | cons e ds ih =>
  cases i with
  | zero=>simp at hi; subst hi; exact h.1
  | succ i=>simp at hi; exact ih h.2 hi
inductive AV where
 | v (x:Value)
 | o (id off:Nat)
structure HB where
 cs:List Value
 t:TypeId
def Jo {α:Type}:List (Nat×α)→Nat→Option α
 | [],_=>none
 | (k,x)::l,t=>bif Nat.beq k t then some x else Jo l t
theorem Wm {α:Type} {l:List (Nat×α)} {t:Nat} {x:α} (h:Jo l t=some x):(t,x)∈l:=by
 induction l with
 | nil=>simp [Jo] at h
 | cons p l ih =>
  obtain ⟨k,y⟩:=p
  simp only [Jo] at h
  cases hb:Nat.beq k t with
  | true=>rw [hb] at h; simp only [cond_true,Option.some.injEq] at h; subst h; have:=Nat.eq_of_beq_eq_true hb; subst this; exact .head _
  | false=>rw [hb] at h; exact .tail _ (ih h)
def N2 {α:Type}:List (Nat×α)→Nat→List (Nat×α)
 | [],_=>[]
 | (k,x)::l,t=>bif Nat.beq k t then N2 l t else (k,x)::N2 l t
theorem D7 {α:Type} {l:List (Nat×α)} {t:Nat} {p:Nat×α} (h:p∈N2 l t):p∈l∧p.1≠t:=by
 induction l with
 | nil=>simp [N2] at h
 | cons q l ih =>
  obtain ⟨k,y⟩:=q
  simp only [N2] at h
  cases hb:Nat.beq k t with
  | true=>rw [hb] at h; exact ⟨.tail _ (ih h).1,(ih h).2⟩
  | false =>
   rw [hb] at h
   simp only [cond_false,List.mem_cons] at h
   rcases h with rfl | h
   ·exact ⟨.head _,fun e=>by simp only at e; subst e; simp [Nat.beq_refl] at hb⟩
   ·exact ⟨.tail _ (ih h).1,(ih h).2⟩
def Zi {α:Type} (l:List (Nat×α)) (t:Nat) (x:α):List (Nat×α):=(t,x)::N2 l t
def den (β:Nat→Nat):AV→Value
 | .v x=>x
 | .o id off=>.pointer (some ⟨β id,off,none⟩)
def Uq:Value→Nat
 | .slice _ n _=>n
 | _=>0
structure TL where
 blks:Nat→Prop
 cov:Nat→Nat→Prop
 cb:∀{b o},cov b o→blks b
 p:Ok→World→Prop
 keep:∀{ok w w'},p ok w→(∀g,blks g→w'.heap[g]?=w.heap[g]?)→Evo ok w w'→p ok w'
 weak:∀{ok ok' w},p ok w→(∀b o,ok b o→ok' b o)→p ok' w
 lt:∀{ok w},p ok w→∀g,blks g→g<w.heap.size
theorem G3 {base e s:Nat} {v:Value} {n:Nat} {xs:List Value} {w w':World} (hx:w.ownsRowS base e s v n xs) (hb:∀g,v.ownBlock=some g→w'.heap[g]?=w.heap[g]?):w'.ownsRowS base e s v n xs:=by
 refine ⟨hx.1,?_⟩
 rcases hx.2 with h1 | ⟨g,cap,cur,fz,hv,hg,hh,r⟩
 ·exact .inl h1
 ·refine .inr ⟨g,cap,cur,fz,hv,hg,?_,r⟩
  rw [hb g (by rw [hv]; rfl)]; exact hh
def tl (v:Value) (e s:Nat):TL where
 blks:=fun g=>v.ownBlock=some g
 cov:=fun b o=>v.ownBlock=some b∧Uq v*s≤o
 cb:=fun h=>h.1
 p:=fun _ w=>∃xs,w.ownsRowS 0 e s v (Uq v) xs
 keep:=fun ⟨xs,h⟩ hb _=>⟨xs,G3 h hb⟩
 weak:=fun h _=>h
 lt:=fun ⟨_,h⟩ g hg=>(h.lt g hg).2
abbrev GL:=List (Nat×AV)
abbrev HL:=List (Nat×HB)
def Q5 (ok0:Ok) (B:Nat) (β:Nat→Nat) (H:HL) (O:List TL) (w:World):Ok:=fun b o =>
 (ok0 b o∨B≤b)∧b<w.heap.size∧(∀h∈H,β h.1≠b)∧(∀t∈O,¬ t.cov b o)
structure Cx where
 n:Nat
 ok:Ok
 w:World
 res:List Nat
 a0:Act
 pin:Option (Nat→Nat)
 lent:List Nat
 lok:∀g∈lent,∀o,ok g o
 dfs:List Deferred
def okL (L:List Nat) (ok:Ok):Ok:=fun b o=>ok b o∨b∈L
abbrev cxL (L:List Nat) (n:Nat) (ok:Ok) (w:World):Cx:=⟨n,okL L ok,w,[],⟨#[],[]⟩,none,L,fun _ hg _=>.inr hg,[]⟩
def Cx.mine (X:Cx) (g:Nat):Prop:=X.w.heap.size≤g∨g∈X.lent
theorem Cx.mine_ok {X:Cx} {g:Nat} (h:X.mine g) (o:Nat):X.ok g o∨X.w.heap.size≤g:=h.elim .inr fun h=>.inl (X.lok g h o)
def N3 (X:Cx):Bool:=match X.pin with
 | none=>true
 | some _=>false
theorem Qn8 {X:Cx} (h:N3 X=true):X.pin=none:=by
 unfold N3 at h
 split at h
 ·assumption
 ·cases h
def Hp:List Nat→Nat→Bool
 | [],_=>true
 | k::l,t=>bif Nat.beq k t then false else Hp l t
theorem Bp {l:List Nat} {t:Nat} (h:Hp l t=true):t∉l:=by
 induction l with
 | nil=>simp
 | cons k l ih =>
  simp only [Hp] at h
  cases hb:Nat.beq k t with
  | true=>rw [hb] at h; cases h
  | false =>
   rw [hb] at h
   intro hm
   rcases List.mem_cons.1 hm with rfl | hm
   ·simp [Nat.beq_refl] at hb
   ·exact ih h hm
def okD (X:Cx) (d:Nat):Bool:=Nat.blt d X.n&&(Hp X.res d&&Nat.blt d 100000)
theorem Kl {X:Cx} {d:Nat} (h:okD X d=true):d<X.n:=by
 simp only [okD,Bool.and_eq_true] at h
 exact Nat.lt_of_succ_le (Nat.le_of_ble_eq_true h.1)
theorem Nh {X:Cx} {d:Nat} (h:okD X d=true):d∉X.res:=by
 simp only [okD,Bool.and_eq_true] at h
 exact Bp h.2.1
theorem Xw {X:Cx} {d:Nat} (h:okD X d=true):Nat.blt d 100000=true:=by
 simp only [okD,Bool.and_eq_true] at h
 exact h.2.2
structure Sb (β:Nat→Nat) (X:Cx) (G:GL) (D:List DF) (H:HL) (O:List TL) (a:Act) (w:World):Prop where
 sz:a.tmps.size=X.n
 df:a.defers=X.dfs
 fr:∀t∈X.res,a.tmps[t]?=X.a0.tmps[t]?
 pn:∀f,X.pin=some f→∀h∈H,β h.1=f h.1
 tm:∀p∈G,a.tmps[p.1]?=some (den β p.2)
 bel:Vq X.lent X.w.heap.size X.w w
 dat:Bo (Q5 X.ok X.w.heap.size β H O w) w D
 obj:∀h∈H,w.heap[β h.1]?=some (.cells h.2.cs.toArray h.2.t (0,0))∧X.mine (β h.1)
 own:∀t∈O,t.p (Q5 X.ok X.w.heap.size β H O w) w∧∀g,t.blks g→X.mine g
 dHH:∀h∈H,∀h'∈H,h.1≠h'.1→β h.1≠β h'.1
 dHO:∀h∈H,∀t∈O,¬ t.blks (β h.1)
 dOO:O.Pairwise fun s t=>∀g,s.blks g→¬ t.blks g
def St (X:Cx) (G:GL) (D:List DF) (H:HL) (O:List TL) (a:Act) (w:World):Prop:=∃β,Sb β X G D H O a w
section
variable {β:Nat→Nat} {X:Cx} {G:GL} {D:List DF} {H:HL} {O:List TL} {a:Act} {w w':World}
theorem I9 {ok0:Ok} (h:w.heap.size≤w'.heap.size) {B:Nat} (b o:Nat):Q5 ok0 B β H O w b o→Q5 ok0 B β H O w' b o :=
 fun ⟨h1,h2,h3,h4⟩=>⟨h1,by omega,h3,h4⟩
theorem Yl {w:World} {g:Nat} {o:Obj} (h:w.heap[g]?=some o):g<w.heap.size:=by
 rcases Nat.lt_or_ge g w.heap.size with hlt | hge
 ·exact hlt
 ·rw [Array.getElem?_eq_none hge] at h; cases h
theorem Sb.olt (h:Sb β X G D H O a w) {t:TL} (ht:t∈O) {g:Nat} (hg:t.blks g):g<w.heap.size:=t.lt (h.own t ht).1 g hg
theorem Sb.hlt (h:Sb β X G D H O a w) {p:Nat×HB} (hp:p∈H):β p.1<w.heap.size:=Yl (h.obj p hp).1
theorem Sb.below (h:Sb β X G D H O a w) (hb:Below w.heap.size w w'):Sb β X G D H O a w' where
 sz:=h.sz
 df:=h.df
 fr:=h.fr
 pn:=h.pn
 tm:=h.tm
 bel:=h.bel.trans (Vq.of _ (hb.mono h.bel.size))
 dat:=(h.dat.evo ((Evo.of_below hb).mono fun b o hk=>hk.2.1)).weak (I9 hb.size)
 obj:=fun o ho=>⟨by rw [hb.block _ (Yl (h.obj o ho).1),(h.obj o ho).1],(h.obj o ho).2⟩
 own:=fun t ht=>⟨t.weak (t.keep (h.own t ht).1 (fun g hg=>hb.block g (h.olt ht hg)) ((Evo.of_below hb).mono fun b o hk=>hk.2.1)) (I9 hb.size),(h.own t ht).2⟩
 dHH:=h.dHH
 dHO:=h.dHO
 dOO:=h.dOO
theorem Sb.act {a':Act} {G':GL} (h:Sb β X G D H O a w) (hs:a'.tmps.size=a.tmps.size) (hd:a'.defers=a.defers) (hr:∀t∈X.res,a'.tmps[t]?=a.tmps[t]?)
  (hg:∀p∈G',a'.tmps[p.1]?=some (den β p.2)):Sb β X G' D H O a' w :=
 { h with sz:=hs.trans h.sz,df:=hd.trans h.df,fr:=fun t ht=>(hr t ht).trans (h.fr t ht),tm:=hg }
theorem Sb.put (h:Sb β X G D H O a w) {t:Nat} (ht:okD X t=true) (x:AV):Sb β X (Zi G t x) D H O (a.put (some t) (den β x)) w:=by
 refine h.act (by simp [Act.put]) rfl (fun k hk=>?_) fun p hp=>?_
 ·have hne:t≠k:=fun e=>Nh ht (e▸hk)
  simp [Act.put,hne]
 simp only [Zi,List.mem_cons] at hp
 rcases hp with rfl | hp
 ·simp [Act.put,h.sz,Kl ht]
 ·obtain ⟨hp,hne⟩:=D7 hp
  have hne':t≠p.1:=fun e=>hne e.symm
  simp [Act.put,hne',h.tm p hp]
theorem Sb.lessG {G':GL} (h:Sb β X G D H O a w) (hg:∀p∈G',p∈G):Sb β X G' D H O a w :=
 { h with tm:=fun p hp=>h.tm p (hg p hp) }
theorem Bo.less {ok:Ok} {D D':List DF} (h:Bo ok w D) (hd:∀d∈D',d∈D):Bo ok w D':=by
 have key:∀d∈D,d.p ok w:=by
  intro d hm
  obtain ⟨i,hi,rfl⟩:=List.getElem_of_mem hm
  exact h.get (List.getElem?_eq_getElem hi)
 clear h
 induction D' with
 | nil=>trivial
 | cons e ds ih=>exact ⟨key e (hd e (.head _)),ih fun d hm=>hd d (.tail _ hm)⟩
end
end Gd

/- The quiet operations of a walk, evaluated by a function; its soundness. -/
namespace Gd
open Go Go.RowKit
set_option linter.unusedVariables false
set_option linter.unusedSimpArgs false
structure TE where
 t:TypeId
 d:TypeDesc
 z:Value
 size:Nat
 bytes:Nat
abbrev Tab:=List TE
def Qy (P:Program):Tab→Prop
 | []=>True
 | e::T=>(((P.info? e.t).map (fun i=>(i.zero,i.size,i.bytes))=some (some e.z,e.size,e.bytes)∧P.underlying e.t=some e.d)∧(P.stoodInHeld e.t||P.eqGuardType P.depth e.t)=false)∧Qy P T
def Qe:Tab→TypeId→Option TE
 | [],_=>none
 | e::T,t=>bif Nat.beq e.t t then some e else Qe T t
theorem Js {P:Program} {T:Tab} (h:Qy P T) {t:TypeId} {e:TE} (he:Qe T t=some e) :
  (P.info? t).map (fun i=>(i.zero,i.size,i.bytes))=some (some e.z,e.size,e.bytes)∧P.underlying t=some e.d:=by
 induction T with
 | nil=>simp [Qe] at he
 | cons x T ih =>
  simp only [Qe] at he
  cases hb:Nat.beq x.t t with
  | true=>rw [hb] at he; simp only [cond_true,Option.some.injEq] at he; subst he; have:=Nat.eq_of_beq_eq_true hb; subst this; exact h.1.1
  | false=>rw [hb] at he; exact ih h.2 he
theorem Qbv {P:Program} {T:Tab} (h:Qy P T) {t:TypeId} {e:TE} (he:Qe T t=some e):P.stoodInHeld t=false∧P.eqGuardType P.depth t=false:=by
 induction T with
 | nil=>simp [Qe] at he
 | cons x T ih =>
  simp only [Qe] at he
  cases hb:Nat.beq x.t t with
  | true=>rw [hb] at he; simp only [cond_true,Option.some.injEq] at he; subst he; have:=Nat.eq_of_beq_eq_true hb; subst this; simpa [Bool.or_eq_false_iff] using h.1.2
  | false=>rw [hb] at he; exact ih h.2 he
theorem Kt {P:Program} {T:Tab} (h:Qy P T) {t:TypeId} {e:TE} (he:Qe T t=some e) :
  ∃i,P.info? t=some i∧i.zero=some e.z∧i.size=e.size∧i.bytes=e.bytes:=by
 have:=(Js h he).1
 cases hi:P.info? t with
 | none=>rw [hi] at this; simp at this
 | some i=>rw [hi] at this; simp at this; exact ⟨i,rfl,this.1,this.2.1,this.2.2⟩
def Uw:TypeDesc→Bool
 | .struct _ | .array _ _=>true
 | _=>false
section
variable {P:Program} {T:Tab} (hT:Qy P T) (w:World)
include hT
theorem D8 {t:TypeId} {e:TE} (he:Qe T t=some e):∃i,(typeInfo t).run P w=.ok i w∧i.zero=some e.z∧i.size=e.size∧i.bytes=e.bytes:=by
 obtain ⟨i,hi,h1,h2,h3⟩:=Kt hT he
 exact ⟨i,by simp [typeInfo,hi],h1,h2,h3⟩
theorem Jy {t:TypeId} {e:TE} (he:Qe T t=some e):(Go.sizeOf t).run P w=.ok e.size w:=by
 obtain ⟨i,hi,h1,h2,h3⟩:=D8 hT w he
 simp [Go.sizeOf,hi,h2]
theorem Y9 {t:TypeId} {e:TE} (he:Qe T t=some e):(zeroValue t).run P w=.ok e.z w:=by
 obtain ⟨i,hi,h1,h2,h3⟩:=D8 hT w he
 simp [zeroValue,hi,h1]
theorem Ji {t:TypeId} {e:TE} (he:Qe T t=some e):(underlying t).run P w=.ok e.d w :=
 run_underlying (Js hT he).2 w
theorem Si {t:TypeId} {e:TE} (he:Qe T t=some e):(isAgg t).run P w=.ok (Uw e.d) w:=by
 simp only [isAgg,Sem.run_bind,Ji hT w he,Result.andThen_ok]
 cases e.d<;>rfl
theorem D9 {t:TypeId} {e:TE} (he:Qe T t=some e) (cs:List Value) (off:Nat) {v:Value}
  (hv:(if Uw e.d then some (.agg ((cs.drop off).take e.size).toArray) else cs[off]?)=some v):(part t cs.toArray off).run P w=.ok v w:=by
 simp only [part,Sem.run_bind,Si hT w he,Result.andThen_ok]
 cases ha:Uw e.d with
 | true =>
  rw [ha] at hv
  simp only [if_true,Option.some.injEq] at hv
  subst hv
  simp [Jy hT w he,List.take_drop]
 | false =>
  rw [ha] at hv
  simp at hv
  simp [hv]
theorem Ek {t:TypeId} {e:TE} (he:Qe T t=some e) (b o:Nat) (cs:List Value) (hl:cs.length=e.size) (hone:Uw e.d=false→cs.length=1)
  (hc:∀(j:Nat) u,cs[j]?=some u→w.cell? ⟨b,o+j,none⟩=some u) :
  (loadVar t ⟨b,o,none⟩).run P w=.ok (if Uw e.d then .agg cs.toArray else cs.headD undef) w:=by
 simp only [loadVar,Sem.run_bind,Si hT w he,Result.andThen_ok]
 cases ha:Uw e.d with
 | true =>
  simp only [if_true,Sem.run_bind,Jy hT w he,Result.andThen_ok,←hl]
  rw [run_loadCells_list w ⟨b,o,none⟩ cs (fun j v hj=>by rw [Addr.add_lit]; exact hc j v hj)]
  simp
 | false =>
  have h1:=hone ha
  match cs,h1 with
  | [c],_ =>
   have:=hc 0 c rfl
   simp at this
   simp [this]
end
theorem Vs (β:Nat→Nat) (x:Value):den β (.v x)=x:=rfl
theorem Bq (β:Nat→Nat) (id off:Nat):den β (.o id off)=.pointer (some ⟨β id,off,none⟩):=rfl
def gv (G:GL):Operand→Option AV
 | .tmp t=>Jo G t
 | .const v=>some (.v v)
 | .func f=>some (.v (.func (.func f) #[] #[]))
 | .global g=>some (.v (.pointer (some ⟨g,0,none⟩)))
def Qft (op:BinOp) (k:IntKind) (a b:Int):Option Value :=
 match op with
 | .add=>some (.int k (k.wrap (a+b)))
 | .sub=>some (.int k (k.wrap (a - b)))
 | .mul=>some (.int k (k.wrap (a*b)))
 | .eql=>some (.bool (a==b))
 | .neq=>some (.bool (a != b))
 | .lss=>some (.bool (decide (a<b)))
 | .leq=>some (.bool (decide (a≤b)))
 | .gtr=>some (.bool (decide (a>b)))
 | .geq=>some (.bool (decide (a≥b)))
 | .and=>some (.int k (Go.bits .and k a b))
 | .or=>some (.int k (Go.bits .or k a b))
 | .xor=>some (.int k (Go.bits .xor k a b))
 | .andNot=>some (.int k (Go.bits .andNot k a b))
 | _=>none
def Qaf (op:BinOp) (k:IntKind) (a:Int):Int→Option Value
 | .ofNat (b+1)=>match op with
  | .quo=>some (.int k (k.wrap (a.tdiv (.ofNat (b+1)))))
  | .rem=>some (.int k (a.tmod (.ofNat (b+1))))
  | _=>none
 | _=>none
def Qfu (op:BinOp) (a b:Str):Option Value :=
 match op with
 | .eql=>some (.bool (a==b))
 | .neq=>some (.bool !(a==b))
 | .lss=>some (.bool (Op.bytesLess a b))
 | .leq=>some (.bool (Op.bytesLess a b||a==b))
 | .gtr=>some (.bool !(Op.bytesLess a b||a==b))
 | .geq=>some (.bool !(Op.bytesLess a b))
 | _=>none
def Fn:IntKind→IntKind→Bool
 | .i8,.i8 | .i16,.i16 | .i32,.i32 | .i64,.i64 | .u8,.u8 | .u16,.u16 | .u32,.u32 | .u64,.u64=>true
 | _,_=>false
theorem Gb {a b:IntKind} (h:Fn a b=true):a=b:=by cases a<;>cases b<;>simp_all [Fn]
def Q33:BinOp→Bool
 | .quo | .rem=>true
 | _=>false
def Ni (T:Tab) (t:TypeId):Bool :=
 match Qe T t with
 | some ⟨_,.bool,_,_,_⟩=>true
 | _=>false
def La (T:Tab) (op:BinOp) (t:TypeId) (x y:Value):Option Value :=
 match x,y with
 | .int k a,.int k' b=>bif Fn k k' then (bif Q33 op then Qaf op k a b else Qft op k a b) else none
 | .bool a,.bool b=>bif Ni T t then (match op with
  | .eql=>some (.bool (a==b))
  | .neq=>some (.bool (a != b))
  | _=>none) else none
 | .string ⟨⟨a⟩⟩,.string ⟨⟨b⟩⟩=>Qfu op a b
 | _,_=>none
def Qh6 (op:UnOp) (x:Value):Option Value :=
 match op,x with
 | .neg,.int k n=>some (.int k (k.wrap (0 - n)))
 | .not,.bool b=>some (.bool !b)
 | _,_=>none
def Qn9 (c:Bool) (x y:Option AV):Option AV :=
 match x,y with
 | some (.v (.bool p)),some (.v (.bool q))=>some (.v (.bool (bif c then p else q)))
 | _,_=>match c with
  | true=>x
  | false=>y
def Ia (T:Tab) (fs:Array Field) (f:Nat):Option Nat :=
 match fs[f]? with
 | some fd=>match Qe T fd.type with
  | some ⟨_,_,_,_+1,_⟩=>some fd.offset
  | _=>none
 | none=>none
def cellsOf? (T:Tab) (t:TypeId) (cs:List Value) (off:Nat):Option Value :=
 match Qe T t with
 | some e=>bif Uw e.d then (if off+e.size≤cs.length then some (.agg ⟨(cs.drop off).take e.size⟩) else none) else (bif Nat.beq e.size 1 then cs[off]? else none)
 | none=>none
def Ci (T:Tab):List Field→Option (List (Nat×Nat))
 | []=>some []
 | f::fs=>match Qe T f.type,Ci T fs with
  | some e,some ps=>some ((f.offset,e.size)::ps)
  | _,_=>none
def evParts (G:GL):List (Nat×Operand)→Option (List (Nat×Value))
 | []=>some []
 | (i,x)::xs=>match gv G x,evParts G xs with
  | some (.v v),some vs=>some ((i,v)::vs)
  | _,_=>none
def Qbw (cs:List Value) (off:Nat) (vs:List Value):List Value:=cs.take off++vs++cs.drop (off+vs.length)
def Qh:Value→List Value
 | .agg ⟨cs⟩=>cs
 | v=>[v]
theorem Yq (v:Value):Qh v=v.cells.toList:=by cases v<;>rfl
def G1 (ps:Nat→Option (Nat×Nat)) (cs:List Value):List (Nat×Value)→Option (List Value)
 | []=>some cs
 | (i,v)::rest=>match ps i with
  | none=>none
  | some (off,size) =>
   bif Nat.beq (Qh v).length size&&Nat.ble (off+(Qh v).length) cs.length then G1 ps (Qbw cs off (Qh v)) rest else none
def Qfv (T:Tab) (G:GL) (H:HL):Op→Option AV
 | .move x | .assign x=>gv G x
 | .pick c a b=>match gv G c with
  | some (.v (.bool c))=>Qn9 c (gv G a) (gv G b)
  | _=>none
 | .binOp op t x y _=>match gv G x,gv G y with
  | some (.v x),some (.v y)=>(La T op t x y).map .v
  | _,_=>none
 | .unOp op _ x=>match gv G x with
  | some (.v x)=>(Qh6 op x).map .v
  | _=>none
 | .fieldAddr s x f=>match Qe T s,gv G x with
  | some ⟨_,.struct fs,_,_,_⟩,some (.o id off)=>(Ia T fs f).map fun k=>.o id (off+k)
  | _,_=>none
 | .load t x=>match gv G x with
  | some (.o id off)=>match Jo H id with
   | some o=>(cellsOf? T t o.cs off).map .v
   | none=>none
  | _=>none
 | .field s x f=>match Qe T s,gv G x with
  | some ⟨_,.struct fs,_,_,_⟩,some (.v (.agg ⟨cs⟩))=>match fs[f]? with
   | some fd=>(cellsOf? T fd.type cs fd.offset).map .v
   | none=>none
  | _,_=>none
 | .extract x i=>match gv G x with
  | some (.v (.tuple ⟨vs⟩))=>(vs[i]?).map .v
  | _=>none
 | .call { callee:=.builtin .len,args:=⟨[x]⟩,argTypes:=⟨[t]⟩ }=>match Qe T t,gv G x with
  | some ⟨_,.slice _,_,_,_⟩,some (.v (.slice _ n _))=>some (.v (.int .i64 n))
  | some ⟨_,.string,_,_,_⟩,some (.v (.string ⟨⟨l⟩⟩))=>some (.v (.int .i64 l.length))
  | some ⟨_,.array n _,_,_,_⟩,_=>some (.v (.int .i64 n))
  | _,_=>none
 | .call { callee:=.builtin .max,args:=⟨[x,y]⟩,argTypes:=_ }=>match gv G x,gv G y with
  | some (.v (.int k a)),some (.v (.int _ b))=>some (.v (.int k (if b>a then b else a)))
  | _,_=>none
 | .call { callee:=.builtin .min,args:=⟨[x,y]⟩,argTypes:=_ }=>match gv G x,gv G y with
  | some (.v (.int k a)),some (.v (.int _ b))=>some (.v (.int k (if b<a then b else a)))
  | _,_=>none
 | .build t ⟨parts⟩=>match Qe T t with
  | some ⟨_,.struct ⟨fs⟩,.agg ⟨z⟩,_,_⟩=>match Ci T fs,evParts G parts with
   | some ps,some vs=>match G1 (fun i=>ps[i]?) z vs with
    | some cs=>some (.v (.agg ⟨cs⟩))
    | none=>none
   | _,_=>none
  | _=>none
 | .convert s t x=>match Qe T s,Qe T t,gv G x with
  | some ⟨_,.int _,_,_,_⟩,some ⟨_,.int k,_,_,_⟩,some (.v (.int _ n))=>some (.v (.int k (k.wrap n)))
  | _,_,_=>none
 | _=>none
section
variable {P:Program} {T:Tab} {β:Nat→Nat} {X:Cx} {G:GL} {D:List DF} {H:HL} {O:List TL} {a:Act} {w w':World}
theorem Sb.ev (h:Sb β X G D H O a w) {x:Operand} {v:AV} (hx:gv G x=some v):a.eval x=den β v:=by
 cases x with
 | tmp t =>
  have:=h.tm _ (Wm hx)
  simp only at this
  simp [Act.eval,this]
 | const v=>simp [gv] at hx; subst hx; rfl
 | func f=>simp [gv] at hx; subst hx; rfl
 | global g=>simp [gv] at hx; subst hx; rfl
theorem Qkd {op:BinOp} {t:TypeId} {a b:Str} {v:Value} (h:Qfu op a b=some v):(binOp op t (.string ⟨⟨a⟩⟩) (.string ⟨⟨b⟩⟩))=(pure v:Sem Value):=by
 have ha:(ByteArray.mk ⟨a⟩).toList=a:=ByteArray.toList_mk a
 have hb:(ByteArray.mk ⟨b⟩).toList=b:=ByteArray.toList_mk b
 cases op<;>simp [Qfu] at h<;>subst h<;>simp [binOp,Op.stringOp,ha,hb]
theorem Qke {op:BinOp} {t:TypeId} {k:IntKind} {a b:Int} {v:Value} (h:Qft op k a b=some v):(binOp op t (.int k a) (.int k b))=(pure v:Sem Value):=by
 cases op<;>simp [Qft] at h<;>subst h<;>simp [binOp,Op.intArith,Op.intCmp]<;>rfl
theorem Qfw {op:BinOp} {t:TypeId} {k:IntKind} {a b:Int} {v:Value} (h:Qaf op k a b=some v):(binOp op t (.int k a) (.int k b))=(pure v:Sem Value):=by
 unfold Qaf at h
 split at h
 ·rename_i m
  have hm:(Int.ofNat (m+1))≠0:=by simp only [Int.ofNat_eq_natCast]; omega
  cases op<;>first | (simp at h; done) | skip
  ·simp only [Option.some.injEq] at h; subst h; rw [binOp_quo]; unfold Op.intDiv; rw [if_neg hm]
  ·simp only [Option.some.injEq] at h; subst h; rw [binOp_rem]; unfold Op.intDiv; rw [if_neg hm]
 ·cases h
theorem Qfx (hT:Qy P T) {t:TypeId} (h:Ni T t=true):P.underlying t=some .bool:=by
 unfold Ni at h
 split at h
 ·rename_i he; exact (Js hT he).2
 ·cases h
theorem Qfy {t:TypeId} (ht:P.underlying t=some .bool) (a b:Bool) (w:World):(Op.equal t (.bool a) (.bool b)).run P w=.ok (a==b) w:=by
 have h:∀d:Nat,(Op.equalIn (d+1) t (.bool a) (.bool b)).run P w=.ok (a==b) w:=fun d=>by
  simp [Op.equalIn,run_underlying ht]
 exact h 9999
theorem Sj (hT:Qy P T) {op:BinOp} {t:TypeId} {x y v:Value} (h:La T op t x y=some v) (w:World):(binOp op t x y).run P w=.ok v w:=by
 unfold La at h
 split at h
 ·rename_i k a k' b
  cases hk:Fn k k' with
  | false=>rw [hk] at h; cases h
  | true =>
   rw [hk] at h
   have:=Gb hk
   subst this
   simp only [cond_true] at h
   cases hd:Q33 op with
   | true=>rw [hd] at h; rw [Qfw h]; rfl
   | false=>rw [hd] at h; rw [Qke h]; rfl
 ·rename_i a b
  cases hb:Ni T t with
  | false=>rw [hb] at h; cases h
  | true =>
   rw [hb] at h
   have hu:=Qfx hT hb
   cases op<;>simp at h<;>subst h<;>simp [binOp,Qfy hu]
   cases a<;>cases b<;>rfl
 ·rw [Qkd h]; rfl
 ·cases h
theorem Qbx {op:UnOp} {x v:Value} (h:Qh6 op x=some v) (w:World):(Op.unary op x).run P w=.ok v w:=by
 unfold Qh6 at h
 split at h<;>simp at h<;>subst h<;>simp [Op.unary,Op.intArith]
theorem Ib {op:BinOp} {t:TypeId} {x y:Value} {p q:Operand} {v:Value} (h:La T op t x y=some v):eqGuard op t p q x y=pure ():=by
 unfold La at h
 split at h
 ·exact eqGuard_at_int _ _ _ _ _ _ _
 ·exact eqGuard_at_bool _ _ _ _ _ _
 ·exact eqGuard_at_string _ _ _ _ _ _
 ·cases h
theorem Qoa {c:Bool} {x y:Option AV} {v:AV} (h:Qn9 c x y=some v):(if c then x else y)=some v:=by
 unfold Qn9 at h
 split at h
 ·simp at h; subst h; cases c<;>rfl
 ·cases c<;>simpa using h
theorem cellsOf?_ok (hT:Qy P T) {t:TypeId} {cs:List Value} {off:Nat} {v:Value} (h:cellsOf? T t cs off=some v) :
  ∃e,Qe T t=some e∧(if Uw e.d then some (Value.agg ((cs.drop off).take e.size).toArray) else cs[off]?)=some v∧off+e.size≤cs.length∧(Uw e.d=false→e.size=1):=by
 unfold cellsOf? at h
 split at h
 ·rename_i e he
  refine ⟨e,he,?_⟩
  cases ha:Uw e.d with
  | true =>
   rw [ha] at h
   simp only [cond_true] at h
   split at h
   ·rename_i hle
    refine ⟨by simpa using h,hle,by simp⟩
   ·cases h
  | false =>
   rw [ha] at h
   simp only [cond_false] at h
   cases hb:Nat.beq e.size 1 with
   | false=>rw [hb] at h; cases h
   | true =>
    rw [hb] at h
    simp only [cond_true] at h
    have:=Nat.eq_of_beq_eq_true hb
    refine ⟨by simpa using h,?_,fun _=>this⟩
    have:=(List.getElem?_eq_some_iff.1 h).1
    omega
 ·cases h
theorem Sb.cell (h:Sb β X G D H O a w) {id:Nat} {o:HB} (ho:Jo H id=some o) (i:Nat):w.cell? ⟨β id,i,none⟩=o.cs[i]?:=by
 have:=(h.obj _ (Wm ho)).1
 simp only at this
 simp [World.cell?,this]
theorem L8 {fs:Array Field} {f k:Nat} (h:Ia T fs f=some k):∃fd,fs[f]?=some fd∧fd.offset=k∧∃e,Qe T fd.type=some e∧e.size≠0:=by
 unfold Ia at h
 split at h
 ·rename_i fd hf
  split at h
  ·rename_i he
   simp at h
   exact ⟨fd,hf,h,_,he,by simp⟩
  ·cases h
 ·cases h
theorem Qby (l:List UInt8):(ByteArray.mk ⟨l⟩).size=l.length:=rfl
theorem Dh (hT:Qy P T):∀{fs:List Field} {ps:List (Nat×Nat)},Ci T fs=some ps→fs.mapM (fun f=>(P.info? f.type).map fun i=>(f.offset,i.size))=some ps
 | [],ps,h=>by simp [Ci] at h; subst h; rfl
 | f::fs,ps,h=>by
  simp only [Ci] at h
  split at h
  ·rename_i e ps' he hp
   simp at h; subst h
   obtain ⟨i,hi,_,hs,_⟩:=Kt hT he
   simp [List.mapM_cons,hi,hs,Dh hT hp]
  ·cases h
theorem F8 (h:Sb β X G D H O a w):∀{xs:List (Nat×Operand)} {vs:List (Nat×Value)},evParts G xs=some vs→xs.map (fun p=>(p.1,a.eval p.2))=vs
 | [],vs,hv=>by simp [evParts] at hv; subst hv; rfl
 | (i,x)::xs,vs,hv=>by
  simp only [evParts] at hv
  split at hv
  ·rename_i v us h1 h2
   simp at hv; subst hv
   simp [h.ev h1,Vs,F8 h h2]
  ·cases hv
theorem Qs6 (cs:List Value) (off:Nat) (vs:List Value) (hle:off+vs.length≤cs.length) :
  (vs.toArray.zipIdx.foldl (fun cs (c,j)=>cs.setIfInBounds (off+j) c) cs.toArray)=(Qbw cs off vs).toArray:=by
 have key:∀(vs:List Value) (k:Nat) (cs:List Value),off+k+vs.length≤cs.length →
   (vs.zipIdx k).foldl (fun (cs:Array Value) (p:Value×Nat)=>cs.setIfInBounds (off+p.2) p.1) cs.toArray=(cs.take (off+k)++vs++cs.drop (off+k+vs.length)).toArray:=by
  intro vs
  induction vs with
  | nil=>intro k cs _; simp
  | cons v vs ih =>
   intro k cs hl
   simp only [List.zipIdx_cons,List.foldl_cons,List.length_cons] at hl ⊢
   have hlt:off+k<cs.length:=by omega
   rw [List.setIfInBounds_toArray,ih (k+1) _ (by simp; omega)]
   congr 1
   have e1:off+(k+1)=off+k+1:=by omega
   rw [e1,List.take_set,List.drop_set_of_lt (by omega)]
   rw [List.take_succ_eq_append_getElem hlt,List.set_append_right _ _ (by simp; omega)]
   simp only [List.length_take,Nat.min_eq_left (Nat.le_of_lt hlt),Nat.sub_self,List.set_cons_zero]
   have e2:off+k+1+vs.length=off+k+(vs.length+1):=by omega
   rw [e2]
   simp
 have:=key vs 0 cs (by simpa using hle)
 simp only [Nat.add_zero] at this
 rw [←Array.foldl_toList]
 simpa [Qbw] using this
theorem Hq (ps:Nat→Option (Nat×Nat)):∀{vs:List (Nat×Value)} {cs cs':List Value},G1 ps cs vs=some cs'→Instr.fill ps cs.toArray vs=some cs'.toArray
 | [],cs,cs',h=>by simp [G1] at h; subst h; rfl
 | (i,v)::rest,cs,cs',h=>by
  simp only [G1] at h
  split at h
  ·cases h
  ·rename_i off size hp
   rw [Yq] at h
   cases hb:(Nat.beq v.cells.toList.length size&&Nat.ble (off+v.cells.toList.length) cs.length) with
   | false=>rw [hb] at h; cases h
   | true =>
    rw [hb] at h
    simp only [cond_true] at h
    simp only [Bool.and_eq_true] at hb
    have h1:=Nat.eq_of_beq_eq_true hb.1
    have h2:=Nat.le_of_ble_eq_true hb.2
    have:=Hq ps h
    simp only [Array.length_toList] at h1 h2
    unfold Instr.fill
    simp only [hp]
    rw [if_neg (by simp; omega)]
    have hl:=Qs6 cs off v.cells.toList (by simpa using h2)
    simp only [Array.toArray_toList] at hl
    rw [hl]
    exact this
theorem Sl (hT:Qy P T) (h:Sb β X G D H O a w) {o:Oper} {v:AV} (hv:Qfv T G H o.op=some v) :
  (execOp a.eval o).run P w=.ok (.value (den β v)) w:=by
 unfold execOp
 generalize o.op=op at hv
 unfold Qfv at hv
 split at hv
 ·dsimp only; rw [h.ev hv]; rfl
 ·dsimp only; rw [h.ev hv]; rfl
 ·split at hv
  ·rename_i c hc
   have hp:=Qoa hv
   simp only [h.ev hc,Vs,Bq]
   cases c with
   | true=>simp at hp; simp [asBool,h.ev hp]
   | false=>simp at hp; simp [asBool,h.ev hp]
  ·cases hv
 ·split at hv
  ·rename_i x y hx hy
   obtain ⟨u,hu,rfl⟩:=Option.map_eq_some_iff.1 hv
   simp only [h.ev hx,h.ev hy,Vs,Bq]
   simp [Ib hu,Sj hT hu]
  ·cases hv
 ·split at hv
  ·rename_i x hx
   obtain ⟨u,hu,rfl⟩:=Option.map_eq_some_iff.1 hv
   simp only [h.ev hx,Vs,Bq]
   simp [Qbx hu]
  ·cases hv
 ·split at hv
  ·rename_i fs _ _ _ id off hs hx
   obtain ⟨k,hk,rfl⟩:=Option.map_eq_some_iff.1 hv
   obtain ⟨f,hf,rfl,e,he,hne⟩:=L8 hk
   simp only [h.ev hx,Vs,Bq]
   simp [Instr.fieldAt,Ji hT w hs,hf,Instr.sureAddr,fieldPlace,Addr.add_lit,Jy hT w he,hne]
  ·cases hv
 ·split at hv
  ·rename_i id off hx
   split at hv
   ·rename_i ob hob
    obtain ⟨u,hu,rfl⟩:=Option.map_eq_some_iff.1 hv
    obtain ⟨e,he,hc,hle,h1⟩:=cellsOf?_ok hT hu
    simp only [h.ev hx,Vs,Bq]
    have hlen:((ob.cs.drop off).take e.size).length=e.size:=by simp; omega
    have:=Ek hT w he (β id) off ((ob.cs.drop off).take e.size) hlen (fun ha=>by rw [hlen]; exact h1 ha) (fun j u hj=>by
     rw [h.cell hob]
     have hj':j<e.size:=by have:=(List.getElem?_eq_some_iff.1 hj).1; omega
     rw [List.getElem?_take_of_lt hj',List.getElem?_drop] at hj
     exact hj)
    simp only [Instr.loadAt,Instr.sureAddr,Sem.run_bind,Sem.run_pure,Result.andThen_ok,this]
    cases ha:Uw e.d with
    | true=>rw [ha] at hc; simp at hc; simp [hc]
    | false =>
     rw [ha] at hc
     simp at hc
     have h1':=h1 ha
     have hlt:=(List.getElem?_eq_some_iff.1 hc).1
     have:(ob.cs.drop off).take e.size=[u]:=by
      rw [h1',List.drop_eq_getElem_cons hlt,(List.getElem?_eq_some_iff.1 hc).2]; rfl
     simp [this]
   ·cases hv
  ·cases hv
 ·split at hv
  ·rename_i fs _ _ _ cs hs hx
   split at hv
   ·rename_i fd hf
    obtain ⟨u,hu,rfl⟩:=Option.map_eq_some_iff.1 hv
    obtain ⟨e,he,hc,hle,h1⟩:=cellsOf?_ok hT hu
    simp only [h.ev hx,Vs,Bq]
    simp [Instr.field,Ji hT w hs,hf,asAgg,D9 hT w he cs fd.offset hc]
   ·cases hv
  ·cases hv
 ·split at hv
  ·rename_i vs hx
   obtain ⟨u,hu,rfl⟩:=Option.map_eq_some_iff.1 hv
   simp only [h.ev hx,Vs,Bq]
   simp [Instr.extract,hu]
  ·cases hv
 ·split at hv
  ·rename_i _ _ _ _ n _ hs hx
   simp at hv; subst hv
   simp [resolve,invoke,builtin,Builtin.len_,Ji hT w hs,h.ev hx,Vs,Bq,goInt]
  ·rename_i _ _ _ l hs hx
   simp at hv; subst hv
   simp [resolve,invoke,builtin,Builtin.len_,Ji hT w hs,h.ev hx,Vs,goInt,Qby]
  ·rename_i n _ _ _ _ hs
   simp at hv; subst hv
   simp [resolve,invoke,builtin,Builtin.len_,Ji hT w hs,Vs,Bq,goInt]
  ·cases hv
 ·split at hv
  ·rename_i k p _ q hx hy
   simp at hv; subst hv
   simp [resolve,invoke,builtin,Builtin.max_,Builtin.max2,h.ev hx,h.ev hy,Vs]
  ·cases hv
 ·split at hv
  ·rename_i k p _ q hx hy
   simp at hv; subst hv
   simp [resolve,invoke,builtin,Builtin.min_,Builtin.min2,h.ev hx,h.ev hy,Vs]
  ·cases hv
 ·split at hv
  ·rename_i t parts _ _ fs z _ _ hs
   split at hv
   ·rename_i ps vs hp hvs
    split at hv
    ·rename_i cs hc
     simp at hv; subst hv
     have hpl:=Dh hT hp
     have hev:=F8 h hvs
     have hf:=Hq _ hc
     have hm:(Array.mk parts).map (fun (x:Nat×Operand)=>(x.1,a.eval x.2))=⟨vs⟩:=by rw [←hev]; simp
     have hpr:=run_places (P:=P) w fs ps hpl
     simp only [Instr.build,Sem.run_bind,Y9 hT w hs,Ji hT w hs,Result.andThen_ok,hm,Vs]
     simp only [Array.mapM_eq_mapM_toList,Sem.run_map,bind_pure_comp,hpr,Result.andThen_ok]
     have hf':Instr.fill (fun x=>ps.toArray[x]?) z.toArray vs=some cs.toArray:=by simpa using hf
     simp only [Value.cells,hf',Sem.run_pure,Result.andThen_ok]
    ·cases hv
   ·cases hv
  ·cases hv
 ·split at hv
  ·rename_i _ _ _ _ k _ _ _ _ n hs ht hx
   simp at hv; subst hv
   simp [convert,Ji hT w hs,Ji hT w ht,h.ev hx,Vs,Bq,Conv.intToInt]
  ·cases hv
 ·cases hv
end
end Gd

/- Sequences of quiet operations, new objects and stores into them. -/
namespace Gd
open Go Go.RowKit
set_option linter.unusedVariables false
set_option linter.unusedSimpArgs false
def Ka (ops:Array Oper) (G:GL) (o:Oper):Option Bool :=
 match o.guard with
 | none=>some true
 | some (j,want)=>match ops[j]? with
  | some p=>match p.dst with
   | some t=>match Jo G t with
    | some (.v (.bool b))=>some (b==want)
    | some (.v (.tuple _))=>some false
    | _=>none
   | none=>none
  | none=>none
def R6:GL→Nat→GL
 | [],_=>[]
 | (k,.v x)::l,d=>(k,.v x)::R6 l d
 | (k,.o id off)::l,d=>bif Nat.beq id d then R6 l d else (k,.o id off)::R6 l d
theorem Qob {l:GL} {d:Nat} {p:Nat×AV} (h:p∈R6 l d):p∈l∧∀off,p.2≠.o d off:=by
 induction l with
 | nil=>simp [R6] at h
 | cons q l ih =>
  obtain ⟨k,x⟩:=q
  cases x with
  | v x =>
   simp only [R6,List.mem_cons] at h
   rcases h with rfl | h
   ·exact ⟨.head _,fun off e=>by cases e⟩
   ·exact ⟨.tail _ (ih h).1,(ih h).2⟩
  | o id off =>
   simp only [R6] at h
   cases hb:Nat.beq id d with
   | true=>rw [hb] at h; exact ⟨.tail _ (ih h).1,(ih h).2⟩
   | false =>
    rw [hb] at h
    simp only [cond_false,List.mem_cons] at h
    rcases h with rfl | h
    ·refine ⟨.head _,fun off e=>?_⟩
     injection e with e1 e2
     subst e1
     simp [Nat.beq_refl] at hb
    ·exact ⟨.tail _ (ih h).1,(ih h).2⟩
def N4:List Value→Bool
 | []=>true
 | v::l=>v.oneCell'&&N4 l
theorem Qkf {l:List Value} (h:N4 l=true):∀v∈l,v.oneCell'=true:=by
 induction l with
 | nil=>simp
 | cons x l ih =>
  simp only [N4,Bool.and_eq_true] at h
  intro v hv
  rcases List.mem_cons.1 hv with rfl | hv
  ·exact h.1
  ·exact ih h.2 v hv
def stepL (T:Tab) (ops:Array Oper) (X:Cx) (o:Oper) (G:GL) (H:HL):Option (GL×HL) :=
 match Ka ops G o with
 | none=>none
 | some false=>match o.dst with
  | some d=>bif okD X d then some (Zi G d (.v undef),H) else none
  | none=>some (G,H)
 | some true=>match o.op with
  | .alloc t=>match o.dst,Qe T t with
   | some d,some e=>bif okD X d&&N3 X then some (Zi (R6 G d) d (.o d 0),Zi H d ⟨Qh e.z,t⟩) else none
   | _,_=>none
  | .box t x=>match o.dst,gv G x with
   | some d,some (.v v)=>bif okD X d&&N3 X then some (Zi (R6 G d) d (.o d 0),Zi H d ⟨Qh v,t⟩) else none
   | _,_=>none
  | .store t p x=>match o.dst,gv G p,gv G x with
   | none,some (.o id off),some (.v v)=>match Jo H id,Qe T t with
    | some ob,some e=>bif Nat.beq (Qh v).length e.size&&Nat.ble (off+e.size) ob.cs.length&&N4 (Qh v) then
      some (G,Zi H id ⟨ob.cs.take off++Qh v++ob.cs.drop (off+(Qh v).length),ob.t⟩) else none
    | _,_=>none
   | _,_,_=>none
  | op=>match Qfv T G H op,o.dst with
   | some x,some d=>bif okD X d then some (Zi G d x,H) else none
   | some _,none=>some (G,H)
   | none,_=>none
section
variable {P:Program} {T:Tab} {β:Nat→Nat} {X:Cx} {G:GL} {D:List DF} {H:HL} {O:List TL} {a:Act} {w w':World}
theorem Ue (h:Sb β X G D H O a w) {ops:Array Oper} {o:Oper} {g:Bool} (hg:Ka ops G o=some g):Region.wanted o (yielded ops a.tmps)=g:=by
 unfold Ka at hg
 unfold Region.wanted
 split at hg
 ·rename_i hn; rw [hn]; simpa using hg
 ·rename_i j want hn
  rw [hn]
  split at hg
  ·rename_i p hp
   split at hg
   ·rename_i t ht
    split at hg
    ·rename_i b hb
     simp at hg
     have:=h.tm _ (Wm hb)
     simp only [Vs] at this
     have hy:yielded ops a.tmps j=some b:=by simp [yielded,hp,ht,this]
     show (yielded ops a.tmps j==some want)=g
     rw [hy,←hg]
     cases b<;>cases want<;>rfl
    ·rename_i hb
     simp at hg
     have:=h.tm _ (Wm hb)
     simp only [Vs] at this
     have hy:yielded ops a.tmps j=none:=by simp [yielded,hp,ht,this]
     show (yielded ops a.tmps j==some want)=g
     rw [hy,hg]; rfl
    ·cases hg
   ·cases hg
  ·cases hg
theorem Sb.alloc (h:Sb β X G D H O a w) {d:Nat} (hdX:okD X d=true) (hpX:N3 X=true) (cs:List Value) (t:TypeId) :
  Sb (fun i=>if i=d then w.heap.size else β i) X (Zi (R6 G d) d (.o d 0)) D (Zi H d ⟨cs,t⟩) O (a.put (some d) (.pointer (some ⟨w.heap.size,0,none⟩))) (w.alloc (.cells cs.toArray t)):=by
 have hsz:(w.alloc (.cells cs.toArray t)).heap.size=w.heap.size+1:=by simp
 have hH:∀p∈Zi H d (⟨cs,t⟩:HB),(p=(d,⟨cs,t⟩))∨(p∈H∧p.1≠d):=by
  intro p hp
  simp only [Zi,List.mem_cons] at hp
  rcases hp with rfl | hp
  ·exact .inl rfl
  ·exact .inr (D7 hp)
 have hlt:∀p∈H,β p.1<w.heap.size:=fun p hp=>Yl (h.obj p hp).1
 have hd:=Kl hdX
 have hevo:Evo (Q5 X.ok X.w.heap.size β H O w) w (w.alloc (.cells cs.toArray t)):=Evo.of_blocks (by simp) fun b o hb=>Below.heap_alloc _ _ _ hb.2.1
 have hok:∀b o,Q5 X.ok X.w.heap.size β H O w b o→Q5 X.ok X.w.heap.size (fun i=>if i=d then w.heap.size else β i) (Zi H d ⟨cs,t⟩) O (w.alloc (.cells cs.toArray t)) b o:=by
  rintro b o ⟨h1,h2,h3,h4⟩
  refine ⟨h1,by omega,?_,h4⟩
  intro p hp
  rcases hH p hp with rfl | ⟨hp,hne⟩
  ·simp; omega
  ·simp [hne,h3 p hp]
 refine { sz:=?_,df:=?_,fr:=?_,pn:=fun f hf=>by (rw [Qn8 hpX] at hf; cases hf),tm:=?_,bel:=?_,dat:=?_,obj:=?_,own:=?_,dHH:=?_,dHO:=?_,dOO:=h.dOO }
 ·simp [Act.put,h.sz]
 ·exact h.df
 ·intro k hk
  have hne:d≠k:=fun e=>Nh hdX (e▸hk)
  simp [Act.put,hne,h.fr k hk]
 ·intro p hp
  simp only [Zi,List.mem_cons] at hp
  rcases hp with rfl | hp
  ·simp [Act.put,h.sz,hd,den]
  ·obtain ⟨hp,hne⟩:=D7 hp
   obtain ⟨hp,hno⟩:=Qob hp
   have hne':d≠p.1:=fun e=>hne e.symm
   have hden:den (fun i=>if i=d then w.heap.size else β i) p.2=den β p.2:=by
    cases hx:p.2 with
    | v x=>rfl
    | o id off =>
     have:id≠d:=by rintro rfl; exact hno off hx
     simp [den,this]
   rw [hden]
   simp [Act.put,hne',h.tm p hp]
 ·exact h.bel.trans (Vq.of _ ((Below.refl _ _).alloc h.bel.size _))
 ·exact (h.dat.evo hevo).weak hok
 ·intro p hp
  rcases hH p hp with rfl | ⟨hp,hne⟩
  ·simp only [if_true]
   exact ⟨heap_alloc_new w _,.inl h.bel.size⟩
  ·simp only [if_neg hne]
   exact ⟨by rw [Below.heap_alloc _ _ _ (hlt p hp),(h.obj p hp).1],(h.obj p hp).2⟩
 ·exact fun u hu=>⟨u.weak (u.keep (h.own u hu).1 (fun g hg=>Below.heap_alloc _ _ _ (h.olt hu hg)) hevo) hok,(h.own u hu).2⟩
 ·intro p hp q hq hne
  rcases hH p hp with rfl | ⟨hp,hnp⟩
  ·rcases hH q hq with rfl | ⟨hq,hnq⟩
   ·exact absurd rfl hne
   ·simp only [if_true,if_neg hnq]; have:=hlt q hq; omega
  ·rcases hH q hq with rfl | ⟨hq,hnq⟩
   ·simp only [if_true,if_neg hnp]; have:=hlt p hp; omega
   ·simp only [if_neg hnp,if_neg hnq]; exact h.dHH p hp q hq hne
 ·intro p hp u hu
  rcases hH p hp with rfl | ⟨hp,hnp⟩
  ·intro e
   have:=h.olt hu e
   simp at this
  ·simp only [if_neg hnp]; exact h.dHO p hp u hu
theorem Sb.store (h:Sb β X G D H O a w) {id:Nat} {ob:HB} (ho:Jo H id=some ob) (cs:List Value) (hl:cs.length=ob.cs.length) :
  Sb β X G D (Zi H id ⟨cs,ob.t⟩) O a (w.setRow (β id) cs.toArray):=by
 have hm:=Wm ho
 have hob:=(h.obj _ hm).1
 simp only at hob
 have hH:∀p∈Zi H id (⟨cs,ob.t⟩:HB),(p=(id,⟨cs,ob.t⟩))∨(p∈H∧p.1≠id):=by
  intro p hp
  simp only [Zi,List.mem_cons] at hp
  rcases hp with rfl | hp
  ·exact .inl rfl
  ·exact .inr (D7 hp)
 have hbg:X.mine (β id):=(h.obj _ hm).2
 have hevo:Evo (Q5 X.ok X.w.heap.size β H O w) w (w.setRow (β id) cs.toArray):=Evo.of_blocks (by simp) fun b o hb=>setRow_other _ _ _ _ (fun e=>hb.2.2.1 _ hm e.symm)
 have hok:∀b o,Q5 X.ok X.w.heap.size β H O w b o→Q5 X.ok X.w.heap.size β (Zi H id ⟨cs,ob.t⟩) O (w.setRow (β id) cs.toArray) b o:=by
  rintro b o ⟨h1,h2,h3,h4⟩
  refine ⟨h1,by simpa using h2,?_,h4⟩
  intro p hp
  rcases hH p hp with rfl | ⟨hp,hne⟩
  ·exact h3 (id,ob) hm
  ·exact h3 p hp
 refine { sz:=h.sz,df:=h.df,fr:=h.fr,pn:=fun f hf p hp=>?_,tm:=h.tm,bel:=?_,dat:=?_,obj:=?_,own:=?_,dHH:=?_,dHO:=?_,dOO:=h.dOO }
 ·rcases hH p hp with rfl | ⟨hp,hne⟩
  ·exact h.pn f hf (id,ob) hm
  ·exact h.pn f hf p hp
 ·exact h.bel.trans ⟨rfl,rfl,rfl,by simp,fun k hk hn=>setRow_other _ _ _ _ (fun e=>hbg.elim (fun hg=>by omega) (fun hg=>hn (e▸hg)))⟩
 ·exact (h.dat.evo hevo).weak hok
 ·intro p hp
  rcases hH p hp with rfl | ⟨hp,hne⟩
  ·exact ⟨setRow_heap _ _ _ _ _ _ hob,hbg⟩
  ·exact ⟨by rw [setRow_other _ _ _ _ (h.dHH p hp _ hm hne)]; exact (h.obj p hp).1,(h.obj p hp).2⟩
 ·exact fun u hu=>⟨u.weak (u.keep (h.own u hu).1 (fun g hg=>setRow_other _ _ _ _ (fun e=>h.dHO _ hm u hu (e▸hg))) hevo) hok,(h.own u hu).2⟩
 ·intro p hp q hq hne
  rcases hH p hp with rfl | ⟨hp,hnp⟩
  ·rcases hH q hq with rfl | ⟨hq,hnq⟩
   ·exact absurd rfl hne
   ·exact h.dHH (id,ob) hm q hq hne
  ·rcases hH q hq with rfl | ⟨hq,hnq⟩
   ·exact h.dHH p hp (id,ob) hm hne
   ·exact h.dHH p hp q hq hne
 ·intro p hp u hu
  rcases hH p hp with rfl | ⟨hp,hnp⟩
  ·exact h.dHO (id,ob) hm u hu
  ·exact h.dHO p hp u hu
theorem Q8 {ops:Array Oper} {Q:Exit→Act→World→Prop} {rest:List Oper} {o:Oper} (hw:Region.wanted o (yielded ops a.tmps)=true)
  (h:o.wp P a w (wpList P ops Q rest) Q):wpList P ops Q (o::rest) a w:=by
 unfold wpList
 rw [if_pos hw]
 exact .inl h
theorem Jv {o:Oper} {next:Act→World→Prop} {Q:Exit→Act→World→Prop} {v:Value} (hr:(execOp a.eval o).run P w=.ok (.value v) w') (h:next (a.put o.dst v) w') :
  o.wp P a w next Q:=by
 unfold Oper.wp; rw [hr]; exact h
theorem Qbz (hT:Qy P T) (h:Sb β X G D H O a w) {ops:Array Oper} {Q:Exit→Act→World→Prop} {o:Oper} {rest:List Oper} {G':GL} {H':HL}
  (hs:stepL T ops X o G H=some (G',H')) (hk:∀β' a' w',Sb β' X G' D H' O a' w'→wpList P ops Q rest a' w'):wpList P ops Q (o::rest) a w:=by
 unfold stepL at hs
 split at hs
 ·cases hs
 ·rename_i hg
  have hw:=Ue h hg
  unfold wpList
  rw [if_neg (by rw [hw]; simp)]
  split at hs
  ·rename_i d hd
   cases hb:okD X d with
   | false=>rw [hb] at hs; cases hs
   | true =>
    rw [hb] at hs
    simp at hs
    obtain ⟨rfl,rfl⟩:=hs
    rw [hd]
    exact hk _ _ _ (h.put hb (.v undef))
  ·rename_i hd
   simp at hs
   obtain ⟨rfl,rfl⟩:=hs
   rw [hd]
   exact hk _ _ _ h
 ·rename_i hg
  refine Q8 (Ue h hg) ?_
  split at hs
  ·rename_i t hop
   split at hs
   ·rename_i d e hd he
    cases hb:(okD X d&&N3 X) with
    | false=>rw [hb] at hs; cases hs
    | true =>
     rw [hb] at hs
     simp only [Bool.and_eq_true] at hb
     simp only [cond_true,Option.some.injEq,Prod.mk.injEq] at hs
     obtain ⟨rfl,rfl⟩:=hs
     have hrun:(execOp a.eval o).run P w=.ok (.value (.pointer (some ⟨w.heap.size,0,none⟩))) (w.alloc (.cells (Qh e.z).toArray t)):=by
      unfold execOp
      simp only [hop]
      simp [Instr.alloc,Y9 hT w he,newVar,newRow,Yq]
     refine Jv hrun ?_
     rw [hd]
     exact hk _ _ _ (h.alloc hb.1 hb.2 _ _)
   ·cases hs
  ·rename_i t x hop
   split at hs
   ·rename_i d v hd hv
    cases hb:(okD X d&&N3 X) with
    | false=>rw [hb] at hs; cases hs
    | true =>
     rw [hb] at hs
     simp only [Bool.and_eq_true] at hb
     simp only [cond_true,Option.some.injEq,Prod.mk.injEq] at hs
     obtain ⟨rfl,rfl⟩:=hs
     have hrun:(execOp a.eval o).run P w=.ok (.value (.pointer (some ⟨w.heap.size,0,none⟩))) (w.alloc (.cells (Qh v).toArray t)):=by
      unfold execOp
      simp only [hop,h.ev hv,Vs]
      simp [Instr.box,newVar,newRow,Yq]
     refine Jv hrun ?_
     rw [hd]
     exact hk _ _ _ (h.alloc hb.1 hb.2 _ _)
   ·cases hs
  ·rename_i t p x hop
   split at hs
   ·rename_i id off v hd hp hx
    split at hs
    ·rename_i ob e ho he
     cases hb:(Nat.beq (Qh v).length e.size&&Nat.ble (off+e.size) ob.cs.length&&N4 (Qh v)) with
     | false=>rw [hb] at hs; cases hs
     | true =>
      rw [hb] at hs
      simp only [cond_true,Option.some.injEq,Prod.mk.injEq] at hs
      obtain ⟨rfl,rfl⟩:=hs
      simp only [Bool.and_eq_true] at hb
      obtain ⟨⟨hb1,hb2⟩,hb3⟩:=hb
      have hl:=Nat.eq_of_beq_eq_true hb1
      have hle:=Nat.le_of_ble_eq_true hb2
      have hob:=(h.obj _ (Wm ho)).1
      simp only at hob
      have hst:=run_storeCells_at P (β id) off ob.t (Qh v) 0 ob.cs.toArray w hob (by simp; omega) (Qkf hb3)
      simp only [Nat.add_zero,List.toList_toArray] at hst
      have hsz:v.cells.size=e.size:=by rw [←hl,Yq]; simp
      have hrun:(execOp a.eval o).run P w=.ok .skip (w.setRow (β id) (ob.cs.take off++Qh v++ob.cs.drop (off+(Qh v).length)).toArray):=by
       unfold execOp
       simp only [hop,h.ev hp,h.ev hx,Vs,Bq]
       rw [Yq] at hst
       simp [Instr.storeAt,Instr.sureAddr,storeVar,Jy hT w he,hsz,Yq,hst]
      unfold Oper.wp
      rw [hrun]
      show wpList P ops Q rest (a.put o.dst undef) _
      rw [hd]
      exact hk _ _ _ (h.store ho _ (by simp; omega))
    ·cases hs
   ·cases hs
  ·split at hs
   ·rename_i x d hx hd
    cases hb:okD X d with
    | false=>rw [hb] at hs; cases hs
    | true =>
     rw [hb] at hs
     simp only [cond_true,Option.some.injEq,Prod.mk.injEq] at hs
     obtain ⟨rfl,rfl⟩:=hs
     refine Jv (Sl hT h hx) ?_
     rw [hd]
     exact hk _ _ _ (h.put hb _)
   ·rename_i x hx hd
    simp at hs
    obtain ⟨rfl,rfl⟩:=hs
    refine Jv (Sl hT h hx) ?_
    rw [hd]
    exact hk _ _ _ h
   ·cases hs
end
end Gd

/- Steps of a walk that read data, call, append. -/
namespace Gd
open Go Go.RowKit
set_option linter.unusedVariables false
set_option linter.unusedSimpArgs false
section
variable {P:Program} {T:Tab} {β:Nat→Nat} {X:Cx} {G:GL} {D:List DF} {H:HL} {O:List TL} {a:Act} {w w':World}
theorem Sb.d (h:Sb β X G D H O a w) (i:Nat) {d:DF} (hi:D[i]?=some d):d.p (Q5 X.ok X.w.heap.size β H O w) w:=h.dat.get hi
theorem Sb.addD (h:Sb β X G D H O a w) {d:DF} (hd:d.p (Q5 X.ok X.w.heap.size β H O w) w):Sb β X G (d::D) H O a w:={ h with dat:=⟨hd,h.dat⟩ }
section steps
variable {ops:Array Oper} {Q:Exit→Act→World→Prop} {rest:List Oper} {o:Oper}
theorem Qoc (h:Sb β X G D H O a w) {g:Option (Nat×Bool)} (hg:Ka ops G o=some true) {d:Nat} (hd:o.dst=some d) (hlt:okD X d=true) {v:Value}
  (hr:(execOp a.eval o).run P w=.ok (.value v) w) (hk:∀a',Sb β X (Zi G d (.v v)) D H O a' w→wpList P ops Q rest a' w):wpList P ops Q (o::rest) a w:=by
 refine Q8 (Ue h hg) (Jv hr ?_)
 rw [hd]
 exact hk _ (h.put hlt (.v v))
theorem Qod {τ:Type} {r:RT τ} {ok:Ok} {w:World} {xs:List τ} {A:Option Addr} {m c:Nat} (h:Sh r ok w xs (.slice A m c)) {i:Nat} {x:τ} (hx:xs[i]?=some x) :
  ∃b o,A=some ⟨b,o,none⟩∧i<m∧I8 r ok w x (.pointer (some ⟨b,o+i*r.size,none⟩)):=by
 obtain ⟨A',m',c',hv,hl,hc,hn⟩:=h
 injection hv with e1 e2 e3
 subst e1; subst e2; subst e3
 have hi:i<m:=by rw [←hl]; exact (List.getElem?_eq_some_iff.1 hx).1
 obtain ⟨b,o,hA,hcs⟩:=hn (by omega)
 obtain ⟨cs,hr,ha⟩:=hcs i x hx
 exact ⟨b,o,hA,hi,b,_,cs,rfl,hr,ha⟩
def okx (ok:Ok) (w w':World):Ok:=fun b o=>ok b o∨(w.heap.size≤b∧b<w'.heap.size)
def Qag (L:List Nat) (w:World) (R:Value→World→Prop):Ending→World→Prop:=fun e w'=>∃v,e=.returned v∧R v w'∧Vq L w.heap.size w w'
abbrev Ret (w:World) (R:Value→World→Prop):Ending→World→Prop:=Qag [] w R
def Runs (P:Program) (f:FuncId):Prop:=∃fn,P.funcs[f]?=some fn∧fn.name ≠ "runtime.NumGoroutine" ∧ fn.body.isNone=false
theorem F9 {f:FuncId} (hf:Runs P f) (args:Array Value) (w:World):(callFunc f args).run P w=.ok (.enter f args) w:=by
 obtain ⟨fn,h1,h2,h3⟩:=hf
 have h2':(fn.name == "runtime.NumGoroutine")=false:=by simpa using h2
 obtain ⟨c,hc⟩:∃c,fn.body=some c:=by
  cases hb:fn.body with
  | none=>rw [hb] at h3; cases h3
  | some c=>exact ⟨c,rfl⟩
 simp [callFunc,h1,h2,hc]
end steps
theorem Aa {c:Code} {Q:Exit→Act→World→Prop} (I:Nat→Act→World→Prop) (m:Nat) (h0:I m a w)
  (round:∀m a w,I m a w→c.wp P (Exit.then (fun a' w'=>∃k,k<m∧I k a' w') Q) a w):(Code.loop c).wp P Q a w:=by
 intro b k cs
 have key:∀m a w,I m a w→∃e a' w',Q e a' w'∧Arrives P (lone (b.at a (.code c::.inLoop c::k)) cs w) b k cs e a' w':=by
  intro m
  induction m using Nat.strongRecOn with
  | _ m ih =>
   intro a w hI
   obtain ⟨e,a₁,w₁,hq,harr⟩:=round m a w hI b (.inLoop c::k) cs
   cases e with
   | normal =>
    obtain ⟨k',hlt,hI₁⟩:=hq
    obtain ⟨e₂,a₂,w₂,hq₂,harr₂⟩:=ih k' hlt a₁ w₁ hI₁
    exact ⟨e₂,a₂,w₂,hq₂,.of_steps (Steps.trans harr (.one step_inLoop)) harr₂⟩
   | exit id=>exact ⟨_,a₁,w₁,hq,.pass (x:=.inLoop c) rfl (fun _ _=>.inl (by simp)) harr⟩
   | goto l=>exact ⟨_,a₁,w₁,hq,.pass (x:=.inLoop c) rfl (fun _ _=>.inl (by simp)) harr⟩
   | ret=>exact ⟨_,a₁,w₁,hq,.pass (x:=.inLoop c) rfl (fun _ _=>.inl (by simp)) harr⟩
   | panic ch=>exact ⟨_,a₁,w₁,hq,.pass (x:=.inLoop c) rfl (fun _ _=>.inl (by simp)) harr⟩
   | outgrown=>exact ⟨_,a₁,w₁,hq,.pass (x:=.inLoop c) rfl (fun _ _=>.inl (by simp)) harr⟩
 obtain ⟨e,a',w',hq,harr⟩:=key m a w h0
 exact ⟨e,a',w',hq,.of_steps (.one step_loop) harr⟩
def Qb0:List Value→Nat→GL
 | [],_=>[]
 | v::vs,i=>(i,.v v)::Qb0 vs (i+1)
theorem Qb1 {vs:List Value} {i:Nat} {p:Nat×AV} (h:p∈Qb0 vs i):∃j v,p=(i+j,.v v)∧vs[j]?=some v:=by
 induction vs generalizing i with
 | nil=>simp [Qb0] at h
 | cons v vs ih =>
  simp only [Qb0,List.mem_cons] at h
  rcases h with rfl | h
  ·exact ⟨0,v,rfl,rfl⟩
  ·obtain ⟨j,u,rfl,hu⟩:=ih h
   exact ⟨j+1,u,by rw [Nat.add_assoc,Nat.add_comm 1 j],hu⟩
end
end Gd
namespace Gd
open Go Go.RowKit
section
variable {P:Program} {T:Tab} {β:Nat→Nat} {X:Cx} {G:GL} {D:List DF} {H:HL} {O:List TL} {a:Act} {w w':World}
end
def idx {α:Type} (xs:List α) (i:Int):Option α:=if 0≤i then xs[i.toNat]? else none
theorem Km {α:Type} {xs:List α} {i:Int} {x:α} (h:idx xs i=some x):0≤i∧xs[i.toNat]?=some x:=by
 unfold idx at h
 split at h
 ·exact ⟨by assumption,h⟩
 ·cases h
def Qoe (s:Str) (i:Int):Option Int:=(idx s i).map fun c=>(c.toNat:Int)
theorem Qs7 {s:Str} {i:Int} {x:Int} (h:Qoe s i=some x):0≤i∧∃c,s[i.toNat]?=some c∧x=(c.toNat:Int):=by
 obtain ⟨c,hc,rfl⟩:=Option.map_eq_some_iff.1 h
 exact ⟨(Km hc).1,c,(Km hc).2,rfl⟩
theorem Yh {α β:Type} {o:Option α} {f:α→Option β} {r:β} (h:o.bind f=some r):∃x,o=some x∧f x=some r:=Option.bind_eq_some_iff.1 h
theorem Q34 {τ:Type} {r:RT τ} {ok:Ok} {w:World}:isV (rSl r) ok w [] (.slice none 0 0):=Uh.2 ⟨none,0,0,rfl,rfl,Nat.le_refl _,fun h=>absurd h (by omega)⟩
theorem E3 {τ:Type} {r:RT τ} {ok:Ok} {w:World} {xs:List τ} {v:Value} (h:isV (rSl r) ok w xs v):∃A c,v=.slice A xs.length c∧isV (rSl r) ok w xs (.slice A xs.length c):=by
 obtain ⟨A,n,c,rfl,hl,r⟩:=Uh.1 h
 subst hl
 exact ⟨A,c,rfl,h⟩
end Gd

/- More steps: elements, appends, new slices. -/
namespace Gd
open Go Go.RowKit
set_option linter.unusedVariables false
set_option linter.unusedSimpArgs false
section
variable {P:Program} {T:Tab} {β:Nat→Nat} {X:Cx} {G:GL} {D:List DF} {H:HL} {O:List TL} {a:Act} {w w':World}
variable {ops:Array Oper} {Q:Exit→Act→World→Prop} {rest:List Oper} {o:Oper}
end
end Gd
namespace Gd
open Go Go.RowKit
def R1 {τ:Type} (r:RT τ) (ok:Ok) (w:World) (y:τ):Value→World→Prop:=fun v w'=>isV r (okx ok w w') w' y v
end Gd
namespace Gd
open Go Go.RowKit
section
variable {P:Program} {T:Tab} {β:Nat→Nat} {X:Cx} {G:GL} {D:List DF} {H:HL} {O:List TL} {a:Act} {w w':World}
variable {ops:Array Oper} {Q:Exit→Act→World→Prop} {rest:List Oper} {o:Oper}
end
end Gd

/- New slices, appends, parts of slices and strings. -/
namespace Gd
open Go Go.RowKit Go.Lib
set_option linter.unusedVariables false
set_option linter.unusedSimpArgs false
def M7 {τ:Type} (r:RT τ) (ok:Ok) (w:World):List τ→List Value→Prop
 | [],[]=>True
 | x::xs,v::vs=>isV r ok w x v∧M7 r ok w xs vs
 | _,_=>False
theorem Qfz {τ:Type} {r:RT τ} {ok:Ok} {w:World} {x:τ} {cs:List Value} (h:r.rep ok w x cs):Qh (r.val cs)=cs:=by
 unfold RT.val
 cases ha:r.agg with
 | true=>rfl
 | false =>
  have h1:=r.len h
  rw [r.one ha] at h1
  match cs,h1 with
  | [c],_ =>
   have:=r.flat h c (by simp)
   cases c<;>first | rfl | (simp [Value.oneCell'] at this)
theorem Xm {τ:Type} {r:RT τ} {ok:Ok} {w:World} {x:τ} {v:Value} (h:isV r ok w x v):r.rep ok w x (Qh v):=by
 obtain ⟨cs,hr,rfl⟩:=h
 rw [Qfz hr]; exact hr
theorem Qb2 {τ:Type} {r:RT τ} {ok:Ok} {w:World}:∀{xs:List τ} {vs:List Value},M7 r ok w xs vs→(vs.flatMap Qh).length=xs.length*r.size∧vs.length=xs.length
 | [],[],_=>by simp
 | x::xs,v::vs,h=>by
  have h1:=r.len (Xm h.1)
  have h2:=Qb2 h.2
  simp [h1,h2.1,h2.2,Nat.add_mul]; omega
theorem Qh7 {τ:Type} {r:RT τ} {ok:Ok} {w:World}:∀{xs:List τ} {vs:List Value},M7 r ok w xs vs→∀(i:Nat) (x:τ),xs[i]?=some x →
  ∃cs,r.rep ok w x cs∧∀(j:Nat) u,cs[j]?=some u→(vs.flatMap Qh)[i*r.size+j]?=some u
 | [],[],_,i,x,hx=>by simp at hx
 | y::ys,v::vs,h,i,x,hx=>by
  have h1:=r.len (Xm h.1)
  cases i with
  | zero =>
   simp at hx; subst hx
   refine ⟨Qh v,Xm h.1,fun j u hu=>?_⟩
   have hj:=(List.getElem?_eq_some_iff.1 hu).1
   simp only [List.flatMap_cons,Nat.zero_mul,Nat.zero_add]
   rw [List.getElem?_append_left hj]; exact hu
  | succ i =>
   simp at hx
   obtain ⟨cs,hr,hc⟩:=Qh7 h.2 i x hx
   refine ⟨cs,hr,fun j u hu=>?_⟩
   simp only [List.flatMap_cons]
   rw [List.getElem?_append_right (by rw [h1,Nat.add_mul]; omega),h1]
   have:(i+1)*r.size+j - r.size=i*r.size+j:=by rw [Nat.add_mul]; omega
   rw [this]
   exact hc j u hu
section
variable {P:Program} {T:Tab} {β:Nat→Nat} {X:Cx} {G:GL} {D:List DF} {H:HL} {O:List TL} {a:Act} {w w':World}
variable {ops:Array Oper} {Q:Exit→Act→World→Prop} {rest:List Oper}
theorem Sb.fresh (h:Sb β X G D H O a w) {τ:Type} {r:RT τ} {xs:List τ} {cs:List Value} {tail:List Value} (e:TypeId) (c:Nat)
  (hc:∀(i:Nat) (x:τ),xs[i]?=some x→∃ds,r.rep (Q5 X.ok X.w.heap.size β H O w) w x ds∧∀(j:Nat) u,ds[j]?=some u→cs[i*r.size+j]?=some u)
  (hl:xs.length≤c) (w':World) (hb:Below w.heap.size w w') {fr:Nat×Nat} (hw':w'.heap[w.heap.size]?=some (.cells (cs++tail).toArray e fr)) :
  isV (rSl r) (Q5 X.ok X.w.heap.size β H O w') w' xs (.slice (some ⟨w.heap.size,0,none⟩) xs.length c):=by
 have hb':Evo (Q5 X.ok X.w.heap.size β H O w) w w':=(Evo.of_below hb).mono fun _ _ hk=>hk.2.1
 have hlt:w.heap.size<w'.heap.size:=Yl hw'
 refine Uh.2 ⟨_,_,_,rfl,rfl,hl,fun _=>⟨_,0,rfl,fun i x hx=>?_⟩⟩
 obtain ⟨ds,hr,hd⟩:=hc i x hx
 refine ⟨ds,r.weak (r.evo hr hb') (I9 hb.size),fun j u hu=>⟨⟨.inr h.bel.size,hlt,fun p hp=>?_,fun t ht hcv=>?_⟩,?_⟩⟩
 ·exact Nat.ne_of_lt (h.hlt hp)
 ·exact Nat.lt_irrefl _ (h.olt ht (t.cb hcv))
 ·have:=hd j u hu
  have hj:=(List.getElem?_eq_some_iff.1 this).1
  simp only [World.cell?,hw',Nat.zero_add,Option.isSome_none,Bool.false_eq_true,if_false]
  rw [List.getElem?_toArray,List.getElem?_append_left hj]
  exact this
def Ab (size:Nat):Nat→Option (Nat×Nat):=fun i=>some (i*size,size)
def V0 (z:List Value) (m:Nat):List Value:=(List.range m).map fun j=>z.getD (j % z.length) undef
theorem A3 (hT:Qy P T) (h:Sb β X G D H O a w) {t:TypeId} {len:Nat} {parts:List (Nat×Operand)} {d:Nat} {ps:String} {af:Array Edge} {ty:TypeId} {gd:Option (Nat×Bool)}
  (hg:Ka ops G ⟨some d,.buildSlice t len ⟨parts⟩,ty,ps,af,gd⟩=some true) (hlt:okD X d=true)
  {τ:Type} {r:RT τ} {xs:List τ} {vs:List Value} {pvs:List (Nat×Value)} (hpv:evParts G parts=some pvs)
  {e:TypeId} {te ee:TE} (ht:Qe T t=some te) (htd:te.d=.slice e) (he:Qe T e=some ee) (hs:ee.size=r.size) (hxl:xs.length=len)
  (hsm:Nat.ble (len*ee.size) 16777216=true) (hps:Nat.ble 1 (len*ee.size)=true) (hz:Nat.beq (Qh ee.z).length ee.size=true)
  (hfill:G1 (Ab ee.size) (V0 (Qh ee.z) (len*ee.size)) pvs=some (vs.flatMap Qh))
  (hv:M7 r (Q5 X.ok X.w.heap.size β H O w) w xs vs)
  (hk:∀A c a' w',isV (rSl r) (Q5 X.ok X.w.heap.size β H O w') w' xs (.slice A xs.length c)→Sb β X (Zi G d (.v (.slice A xs.length c))) D H O a' w'→wpList P ops Q rest a' w') :
  wpList P ops Q (⟨some d,.buildSlice t len ⟨parts⟩,ty,ps,af,gd⟩::rest) a w:=by
 have hrun:(execOp a.eval ⟨some d,.buildSlice t len ⟨parts⟩,ty,ps,af,gd⟩).run P w=.ok (.value (.slice (some ⟨w.heap.size,0,none⟩) xs.length len)) (w.alloc (.cells (vs.flatMap Qh).toArray e)):=by
  have hev:=F8 h hpv
  have hm:(Array.mk parts).map (fun (x:Nat×Operand)=>(x.1,a.eval x.2))=⟨pvs⟩:=by rw [←hev]; simp
  have hun:(underlying t).run P w=.ok (.slice e) w:=by rw [Ji hT w ht,htd]
  have h16:¬ len*ee.size>16777216:=by have:=Nat.le_of_ble_eq_true hsm; omega
  have hzl:=Nat.eq_of_beq_eq_true hz
  have hf:Instr.fill (fun i=>some (i*ee.size,ee.size)) (V0 (Qh ee.z) (len*ee.size)).toArray pvs=some (vs.flatMap Qh).toArray:=Hq _ hfill
  have hzz:(Array.range (len*ee.size)).map (fun x=>ee.z.cells[x % ee.z.cells.size]!)=(V0 (Qh ee.z) (len*ee.size)).toArray:=by
   rw [Yq]
   unfold V0
   apply Array.ext
   ·simp
   ·intro i h1 h2
    have hi:i<len*ee.size:=by simpa using h1
    have hne:0<ee.size:=by
     rcases Nat.eq_zero_or_pos ee.size with h0 | h0
     ·rw [h0] at hi; omega
     ·exact h0
    have hzs:ee.z.cells.size=ee.size:=by rw [←hzl,Yq]; simp
    have hmod:i % ee.z.cells.size<ee.z.cells.size:=Nat.mod_lt _ (by omega)
    simp [getElem!_pos,hmod]
  unfold execOp
  simp only [Instr.buildSlice,Sem.run_bind,hun,Jy hT w he,Result.andThen_ok,hm]
  have h0:¬ len*ee.size=0:=by have:=Nat.le_of_ble_eq_true hps; omega
  have h00:len≠0:=fun e=>h0 (by rw [e,Nat.zero_mul])
  have h01:ee.size≠0:=fun e=>h0 (by rw [e,Nat.mul_zero])
  simp [h16,h00,h01,Y9 hT w he,hzz,hf,newRow,hxl]
  exact fun e=>absurd e h0
 refine Q8 (Ue h hg) (Jv hrun ?_)
 have hb:Below w.heap.size w (w.alloc (.cells (vs.flatMap Qh).toArray e)):=(Below.refl _ _).alloc (Nat.le_refl _) _
 refine hk _ len _ _ ?_ ((h.below hb).put hlt (.v _))
 exact h.fresh (tail:=[]) e len (Qh7 hv) (by omega) _ hb (by rw [List.append_nil]; exact heap_alloc_new w _)
def app {α:Type} (bytes:Nat) (xs ys:List α):Option (List α):=if (xs.length+ys.length)*bytes≤140737488355328 then some (xs++ys) else none
theorem Di {α:Type} {bytes:Nat} {xs ys zs:List α} (h:app bytes xs ys=some zs):(xs.length+ys.length)*bytes≤140737488355328∧zs=xs++ys:=by
 unfold app at h
 split at h
 ·exact ⟨by assumption,(Option.some.inj h).symm⟩
 ·cases h
theorem Hr:maxLen=9223372036854775807:=rfl
theorem Lb (t ty e:TypeId) (i:TypeInfo) (ht:P.underlying t=some (.slice e)) (hi:P.info? e=some i)
  (g sLen sCap:Nat) (cur:Array Value) (fz:Nat×Nat) (hg:w.heap[g]?=some (.cells cur e fz)) (hfz:Qfs fz cur.size)
  (a:Addr) (m c:Nat) (news:List Value) (hl:news.length=m*i.size) (hnews:∀j u,news[j]?=some u→w.cell? (a.add j)=some u) (h1:∀u∈news,u.oneCell'=true)
  (hroom:sLen+m≤sCap) (hfit:sLen*i.size+news.length≤cur.size) :
  (Builtin.append_ #[t,t] ty #[.slice (some ⟨g,0,none⟩) sLen sCap,.slice (some a) m c]).run P w =
   .ok (.slice (some ⟨g,0,none⟩) (sLen+m) sCap) (w.setRow g (cur.toList.take (sLen*i.size)++news++cur.toList.drop (sLen*i.size+news.length)).toArray):=by
 have hf:=run_firstCells_some (P:=P) w i.size m a m c news hl hnews
 have hst:=Vz P g (sLen*i.size) e fz news 0 cur w hg hfz (by simpa using hfit) h1
 simp only [Nat.add_zero] at hst
 simp [Builtin.append_,run_underlying ht,Go.sizeOf,typeInfo,hi,Builtin.lenOf,hroom,hf,Addr.add_lit,hst]
theorem Br (t u ty e:TypeId) (i:TypeInfo) (ht:P.underlying t=some (.slice e)) (hu:P.underlying u=some .string) (hi:P.info? e=some i) (hs1:i.size=1)
  (g sLen sCap:Nat) (cur:Array Value) (fz:Nat×Nat) (hg:w.heap[g]?=some (.cells cur e fz)) (hfz:Qfs fz cur.size) (s:ByteArray)
  (hroom:sLen+s.size≤sCap) (hfit:sLen+s.size≤cur.size) :
  (Builtin.append_ #[t,u] ty #[.slice (some ⟨g,0,none⟩) sLen sCap,.string s]).run P w =
   .ok (.slice (some ⟨g,0,none⟩) (sLen+s.size) sCap) (w.setRow g (cur.toList.take sLen++strCells s++cur.toList.drop (sLen+s.size)).toArray):=by
 have hf:=run_firstCells_string (P:=P) w 1 s
 have hst:=Vz P g sLen e fz (strCells s) 0 cur w hg hfz (by simpa [strCells_length] using hfit) (strCells_oneCell s)
 simp only [Nat.add_zero,strCells_length] at hst
 simp [Builtin.append_,run_underlying ht,run_underlying hu,Go.sizeOf,typeInfo,hi,hs1,Builtin.lenOf,hroom,hf,Addr.add_lit,hst]
theorem Bs {base:Nat} {t u ty e:TypeId} {i:TypeInfo} (ht:P.underlying t=some (.slice e)) (hu:P.underlying u=some .string) (hi:P.info? e=some i) (hz:i.zero=some (.int .u8 0))
  (hsize:i.size=1) (hby:i.bytes=1) {v:Value} {n:Nat} {xs:List Value} (hown:w.ownsRowS base e 1 v n xs) (s:ByteArray) (hbytes:n+s.size≤140737488355328) (hbase:base≤w.heap.size) :
  ∃v' w',(Builtin.append_ #[t,u] ty #[v,.string s]).run P w=.ok v' w'∧w'.ownsRowS base e 1 v' (n+s.size) (xs++strCells s)∧w.grownBy w' v.ownBlock ∧
   ((v'.ownBlock=v.ownBlock)∨(v'.ownBlock=some w.heap.size∧Below w.heap.size w w')):=by
 have h63:n+s.size≤maxLen:=by rw [Hr]; omega
 have hxl:xs.length=n:=by simpa using hown.1
 have hlen:(xs++strCells s).length=(n+s.size)*1:=by rw [List.length_append,hxl,strCells_length,Nat.mul_one]
 have grown:∀(old:Nat),old<n+s.size →
   (w.drew.alloc (.cells (xs.toArray++(strCells s).toArray++Builtin.zeroCells (Value.int .u8 0).cells (grownCap w (n+s.size) old e - (n+s.size))) e)).ownsRowS base e 1
    (.slice (some ⟨w.heap.size,0,none⟩) (n+s.size) (grownCap w (n+s.size) old e)) (n+s.size) (xs++strCells s) ∧
   Below w.heap.size w (w.drew.alloc (.cells (xs.toArray++(strCells s).toArray++Builtin.zeroCells (Value.int .u8 0).cells (grownCap w (n+s.size) old e - (n+s.size))) e)):=by
  intro old ho
  have hge:=grownCap_ge w (n+s.size) old e
  have hcm:grownCap w (n+s.size) old e≤maxLen:=grownCap_le_maxLen w (n+s.size) old e h63
  refine ⟨⟨hlen,.inr ⟨w.heap.size,_,_,(0,0),rfl,hbase,heap_alloc_new w.drew _,.inl rfl,hge,hcm,?_,?_⟩⟩,((Below.refl _ _).drew.alloc (Nat.le_refl _) _)⟩
  ·refine Nat.le_of_eq (Eq.symm ?_)
   simp only [Array.size_append,List.size_toArray,size_zeroCells,hxl,strCells_length]
   simp [Value.cells]
   omega
  ·simp only [Array.toList_append,List.append_assoc]
   rw [←List.append_assoc,←hlen]
   exact List.take_left
 rcases hown.2 with ⟨rfl,rfl⟩ | ⟨g,cap,cur,fz,rfl,hbg,hg,hfz,hnc,hcm,hcs,htake⟩
 ·have hx0:xs=[]:=List.eq_nil_of_length_eq_zero hxl
  subst hx0
  by_cases hs0:s.size=0
  ·refine ⟨.slice none 0 0,w,?_,⟨hlen,.inl ⟨rfl,by omega⟩⟩,⟨rfl,rfl,rfl,Nat.le_refl _,fun _ _ _=>rfl⟩,.inl rfl⟩
   simp [Builtin.append_,run_underlying ht,run_underlying hu,Go.sizeOf,typeInfo,hi,Builtin.lenOf,hs0,Builtin.firstCells]
  ·have hr:=run_append_nil_string (P:=P) w t u ty e i (.int .u8 0) ht hu hi hz s (by omega) (by omega) (by rw [hby]; omega)
   have e0:s.data.map (fun b=>Value.int .u8 (b.toNat:Int))=(strCells s).toArray:=by apply Array.ext'; simp [strCells]
   rw [e0] at hr
   obtain ⟨g1,g2⟩:=grown 0 (by omega)
   simp only [Nat.zero_add,List.nil_append,Array.empty_append] at g1 g2 ⊢
   exact ⟨_,_,hr,g1,⟨g2.os,g2.tape,g2.output,g2.size,fun b hb _=>g2.block b hb⟩,.inr ⟨rfl,g2⟩⟩
 ·by_cases hroom:n+s.size≤cap
  ·have hcs':cap≤cur.size:=by simpa using hcs
   have hr:=Br (P:=P) (w:=w) t u ty e i ht hu hi hsize g n cap cur fz hg hfz s hroom (by omega)
   have hsz:(cur.toList.take n++strCells s++cur.toList.drop (n+s.size)).toArray.size=cur.size:=by
    simp only [List.size_toArray,List.length_append,List.length_take,List.length_drop,Array.length_toList,strCells_length]; omega
   refine ⟨_,_,hr,⟨hlen,.inr ⟨g,cap,_,fz,rfl,hbg,setRow_heap w g cur _ e _ hg,by rw [hsz]; exact hfz,hroom,hcm,by rw [hsz]; exact hcs,?_⟩⟩,⟨rfl,rfl,rfl,by simp,fun b _ hb=>setRow_other w g b _ (fun e=>hb (by simp [Value.ownBlock,e]))⟩,.inl rfl⟩
   have ht':cur.toList.take n=xs:=by simpa using htake
   rw [ht',←hlen]
   exact List.take_left
  ·have holds:∀j u,xs[j]?=some u→w.cell? ((⟨g,0,none⟩:Addr).add j)=some u:=hown.cells (g:=g) rfl
   have hr:=run_append_grow_string (P:=P) w t u ty e i (.int .u8 0) ht hu hi hz ⟨g,0,none⟩ n cap xs (by rw [hsize]; simpa using hxl) holds s (by omega) (by omega) (by rw [hby]; exact growslice_fits (by omega) (by omega))
   obtain ⟨g1,g2⟩:=grown cap (by omega)
   exact ⟨_,_,hr,g1,⟨g2.os,g2.tape,g2.output,g2.size,fun b hb _=>g2.block b hb⟩,.inr ⟨rfl,g2⟩⟩
theorem Dj (hT:Qy P T) {base:Nat} {t ty e:TypeId} {te ee:TE} (ht:Qe T t=some te) (htd:te.d=.slice e) (he:Qe T e=some ee)
  (hz:(Qh ee.z).length=ee.size) (hsz:0<ee.size) (hby:0<ee.bytes) {v:Value} {m:Nat} {xs:List Value} (hown:w.ownsRowS base e ee.size v m xs) (hbase:base≤w.heap.size)
  {A:Option Addr} {k c:Nat} {news:List Value} (hl:news.length=k*ee.size) (hA:A=none→k=0) (hnews:∀ad,A=some ad→∀j u,news[j]?=some u→w.cell? (ad.add j)=some u)
  (h1:∀u∈news,u.oneCell'=true) (hbytes:(m+k)*ee.bytes≤140737488355328) :
  ∃v' w',(Builtin.append_ ⟨[t,t]⟩ ty ⟨[v,.slice A k c]⟩).run P w=.ok v' w'∧w'.ownsRowS base e ee.size v' (m+k) (xs++news)∧w.grownBy w' v.ownBlock ∧
   ((v'.ownBlock=v.ownBlock)∨(v'.ownBlock=some w.heap.size∧Below w.heap.size w w')):=by
 have hu:P.underlying t=some (.slice e):=by rw [(Js hT ht).2,htd]
 obtain ⟨i,hi,hz',hs',hb'⟩:=Kt hT he
 have hzs:ee.z.cells.size=ee.size:=by rw [←hz,Yq]; simp
 have hmk:m+k≤140737488355328:=Nat.le_trans (Nat.le_mul_of_pos_right _ hby) hbytes
 rw [←hs'] at hl hown hsz hzs ⊢
 rw [←hb'] at hbytes
 have hlen:(xs++news).length=(m+k)*i.size:=by rw [List.length_append,hown.1,hl,Nat.add_mul]
 cases A with
 | none =>
  have hk:=hA rfl
  subst hk
  have hn:news=[]:=List.eq_nil_of_length_eq_zero (by simpa using hl)
  subst hn
  refine ⟨v,w,?_,by simpa using hown,⟨rfl,rfl,rfl,Nat.le_refl _,fun _ _ _=>rfl⟩,.inl rfl⟩
  rcases hown.2 with ⟨rfl,rfl⟩ | ⟨g,cap,cur,fz,rfl,_,_,_,hnc,_⟩
  ·simp [Builtin.append_,run_underlying hu,Go.sizeOf,typeInfo,hi,Builtin.lenOf,Builtin.firstCells]
  ·simp [Builtin.append_,run_underlying hu,Go.sizeOf,typeInfo,hi,Builtin.lenOf,Builtin.firstCells,hnc,storeCells]
 | some ad =>
  have hn:=hnews ad rfl
  have grown:∀old:Nat,old<m+k →
    (w.drew.alloc (.cells (xs.toArray++news.toArray++Builtin.zeroCells ee.z.cells (grownCap w (m+k) old e - (m+k))) e)).ownsRowS base e i.size
     (.slice (some ⟨w.heap.size,0,none⟩) (m+k) (grownCap w (m+k) old e)) (m+k) (xs++news) ∧
    Below w.heap.size w (w.drew.alloc (.cells (xs.toArray++news.toArray++Builtin.zeroCells ee.z.cells (grownCap w (m+k) old e - (m+k))) e)):=by
   intro old ho
   have hge:=grownCap_ge w (m+k) old e
   have hcm:grownCap w (m+k) old e≤maxLen:=grownCap_le_maxLen w (m+k) old e (by rw [Hr]; omega)
   refine ⟨⟨hlen,.inr ⟨w.heap.size,_,_,(0,0),rfl,hbase,heap_alloc_new w.drew _,.inl rfl,hge,hcm,?_,?_⟩⟩,((Below.refl _ _).drew.alloc (Nat.le_refl _) _)⟩
   ·refine Nat.le_of_eq (Eq.symm ?_)
    simp only [Array.size_append,List.size_toArray,size_zeroCells,hzs,hown.1,hl,←Nat.add_mul]
    congr 1; omega
   ·simp only [Array.toList_append,List.append_assoc]
    rw [←List.append_assoc,←hlen]
    exact List.take_left
  rcases hown.2 with ⟨rfl,rfl⟩ | ⟨g,cap,cur,fz,rfl,hbg,hg,hfz,hnc,hcm,hcs,htake⟩
  ·have hx:xs=[]:=List.eq_nil_of_length_eq_zero (by simpa using hown.1)
   subst hx
   by_cases hk0:k=0
   ·subst hk0
    have hn0:news=[]:=List.eq_nil_of_length_eq_zero (by simpa using hl)
    subst hn0
    refine ⟨.slice none 0 0,w,?_,World.ownsRowS_nil w base e i.size,⟨rfl,rfl,rfl,Nat.le_refl _,fun _ _ _=>rfl⟩,.inl rfl⟩
    simp [Builtin.append_,run_underlying hu,Go.sizeOf,typeInfo,hi,Builtin.lenOf,Builtin.firstCells,loadCells,loadCellsFrom]
   ·have hr:=run_append_nil (P:=P) w t ty e i ee.z hu hi hz' ad k c news hl hn (by omega) (by omega) (by have hb:=hbytes; simp only [Nat.zero_add] at hb; omega)
    obtain ⟨g1,g2⟩:=grown 0 (by omega)
    simp only [Nat.zero_add,List.nil_append,Array.empty_append] at g1 g2 ⊢
    exact ⟨_,_,hr,g1,⟨g2.os,g2.tape,g2.output,g2.size,fun b hb _=>g2.block b hb⟩,.inr ⟨rfl,g2⟩⟩
  ·by_cases hroom:m+k≤cap
   ·have hfit:m*i.size+news.length≤cur.size:=by rw [hl,←Nat.add_mul]; exact Nat.le_trans (Nat.mul_le_mul_right _ hroom) hcs
    have hr:=Lb (P:=P) (w:=w) t ty e i hu hi g m cap cur fz hg hfz ad k c news hl hn h1 hroom hfit
    have hszr:(cur.toList.take (m*i.size)++news++cur.toList.drop (m*i.size+news.length)).toArray.size=cur.size:=by
     simp only [List.size_toArray,List.length_append,List.length_take,List.length_drop,Array.length_toList]; omega
    refine ⟨_,_,hr,⟨hlen,.inr ⟨g,cap,_,fz,rfl,hbg,setRow_heap w g cur _ e _ hg,by rw [hszr]; exact hfz,hroom,hcm,by rw [hszr]; exact hcs,?_⟩⟩,⟨rfl,rfl,rfl,by simp,fun b _ hb=>setRow_other w g b _ (fun e=>hb (by simp [Value.ownBlock,e]))⟩,.inl rfl⟩
    rw [htake,←hlen]
    exact List.take_left
   ·have holds:∀j u,xs[j]?=some u→w.cell? ((⟨g,0,none⟩:Addr).add j)=some u:=hown.cells (g:=g) rfl
    have hr:=run_append_grow (P:=P) w t ty e i ee.z hu hi hz' ⟨g,0,none⟩ m cap xs hown.1 holds ad k c news hl hn (by omega) (by omega) (growslice_fits (by omega) hbytes)
    obtain ⟨g1,g2⟩:=grown cap (by omega)
    exact ⟨_,_,hr,g1,⟨g2.os,g2.tape,g2.output,g2.size,fun b hb _=>g2.block b hb⟩,.inr ⟨rfl,g2⟩⟩
end
end Gd
