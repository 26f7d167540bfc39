/- Decompilation core: typed readings of values, the state of a walk, and its frame. -/
import Derived.WalkKit
import Derived.KernelRfl
import Derived.Lib.AppendStr
import Derived.Lib.ConvBytes
import Derived.Orders
set_option linter.defProp false
set_option linter.unusedVariables false
set_option linter.unusedSimpArgs false
namespace Go
def QQ := @Bool.and_eq_true
def QJ := @Option.bind_some
def QX := @List.mem_cons
def QZ := @List.mem_append
def QK := @List.mem_map
def QV := @Nat.le_of_ble_eq_true
def QW := @Nat.zero_add
def QY := @Nat.le_refl
def QU := @Int.tdiv_eq_ediv_of_nonneg
def QG := @Bool.false_eq_true
def QH := @List.append_nil
def QE := @List.nil_append
def QF := @List.eq_nil_of_length_eq_zero
def QA := @List.pairwise_append
def QB := @List.mem_filter
def QC := @List.map_append
def QD := @List.cons_append
def QI := @Nat.lt_of_lt_of_le
def QM := @Nat.mul_le_mul_right
def QN := @Nat.zero_le
def QO := @List.mem_singleton
def QP := @Array.getD_eq_getD_getElem?
def QR := @List.all_eq_true
def QT := @List.not_mem_nil
def JQ := @List.map_cons
def JJ := @List.nodup_cons
def JX := @List.filterMap_append
def JZ := @Bool.or_eq_true
def JK := @List.getElem?_take
def JV := @List.getElem?_drop
def JW := @List.length_nil
def JY := @List.perm_append_comm
def JU := @List.mem_range
def JG := @List.filter_append
def JH := @List.getElem_mem
def JE := @List.filter_cons_of_neg
def JF := @List.getElem?_append_right
def JA := @Int.tmod_eq_emod_of_nonneg
def JB := @List.filterMap_cons
def JC := @List.getElem?_append_left
def JD := @List.size_toArray
def JI := @List.flatMap_cons
def JL := @List.pairwise_map
def JM := @List.drop_of_length_le
def JN := @Array.getElem?_eq_getElem
def JO := @Bool.or_eq_false_iff
def JP := @Bool.not_eq_true'
def JR := @Nat.add_sub_cancel_left
def JS := @Nat.succ_le_succ
def JT := @List.take_append_of_le_length
def XQ := @Nat.add_zero
def XJ := @Option.map_some
def XX := @Int.lt_trichotomy
def XZ := @Array.getElem?_append_left
def XK := @Option.getD_some
def XV := @List.mem_or_eq_of_mem_set
def XW := @List.all_cons
def XY := @Array.getElem?_replicate
def XU := @Nat.le_mul_of_pos_right
def XG := @List.filter_cons_of_pos
def XH := @List.take_succ_eq_append_getElem
def XE := @Option.map_eq_some_iff
def XF := @List.take_take
def XA := @List.getElem?_map
def XB := @List.length_replicate
def XC := @List.take_append
def XD := @List.getElem_map
def XI := @Int.mul_le_mul_of_nonneg_right
def XL := @List.filter_cons
def XM := @List.drop_length
def XN := @Int.ediv_le_self
def XO := @Int.le_refl
def XP := @Nat.le_succ
def XR := @Int.ediv_nonneg
def XT := @Nat.add_comm
def ZQ := @Nat.zero_mul
def ZJ := @List.take_zero
def ZX := @Nat.max_le
def ZZ := @Array.mapM_eq_mapM_toList
def ZK := @List.filterMap_eq_nil_iff
def ZV := @List.pairwise_iff_getElem
def ZW := @Int.natAbs_tdiv_le_natAbs
def ZY := @Nat.mul_one
def ZU := @Array.size_append
def ZG := @List.ext_getElem?
def ZH := @Option.bind_assoc
def ZE := @Bool.false_or
def ZF := @List.any_eq_true
def ZA := @List.ext_getElem
def ZB := @List.getLast?_singleton
def ZC := @List.map_nil
def ZD := @List.drop_eq_nil_of_le
def ZI := @List.length_eq_one_iff
def ZL := @Nat.max_zero
def ZM := @Int.ediv_lt_iff_lt_mul
def ZN := @List.eraseIdx_sublist
def ZO := @Array.getElem?_modify
def ZP := @List.mem_iff_getElem?
def ZR := @List.length_singleton
def ZS := @List.mapM_cons
def ZT := @List.mem_of_mem_take
def KQ := @Bool.false_and
def KJ := @Bool.not_false
def KX := @List.flatten_append
def KZ := @List.filterMap_some
def KK := @Bool.and_self
def KV := @Bool.or_false
def KW := @Nat.zero_max
def KY := @Int.lt_asymm
def KU := @Nat.one_mul
def Q6g(fz:Nat×Nat)(n:Nat):Prop:=fz=(0,0)∨fz=(n,n+1)
def World.ownsRowS(w:World)(base:Nat)(e:TypeId)(size:Nat)(v:Value)(n:Nat)(xs:List Value):Prop :=
  xs.length=n*size ∧
  ((v=.slice none 0 0∧n=0) ∨
   ∃g cap cur fz,v=.slice (some ⟨g,0,none⟩) n cap∧base≤g∧w.heap[g]?=some (.cells cur e fz)∧Q6g fz cur.size∧n≤cap∧cap≤maxLen∧cap*size≤cur.size∧cur.toList.take (n*size)=xs)
section
variable {w:World} {base:Nat} {e:TypeId} {size:Nat} {v:Value} {n:Nat} {xs:List Value}
theorem World.ownsRowS_nil(w:World)(base:Nat)(e:TypeId)(size:Nat):w.ownsRowS base e size (.slice none 0 0) 0 []:=⟨by simp,.inl ⟨rfl,rfl⟩⟩
theorem World.ownsRowS.lt(h:w.ownsRowS base e size v n xs):∀k,v.ownBlock=some k→base≤k∧k<w.heap.size:=by
 intro k hk;rcases h.2 with⟨rfl,_⟩ | ⟨g,cap,cur,fz,rfl,hb,hg,_⟩
 ·simp[Value.ownBlock]at hk
 grind [Value.ownBlock,Array.getElem?_eq_some_iff]
theorem World.ownsRowS.cells(h:w.ownsRowS base e size v n xs){g:Nat}(hg:v.ownBlock=some g):∀j u,xs[j]?=some u→w.cell? ((⟨g,0,none⟩:Addr).add j)=some u:=by
 intro j u hu;rcases h.2 with⟨rfl,_⟩ | ⟨g',cap,cur,fz,rfl,_,hgg,_,_,_,_,htake⟩
 ·simp[Value.ownBlock]at hg
 grind [Value.ownBlock,Addr,Addr.add,cell_of_row]
end
theorem Kh(P:Program)(g o:Nat)(t:TypeId)(fz:Nat×Nat):∀(vs:List Value) (i:Nat) (cur:Array Value) (w:World),w.heap[g]?=some (.cells cur t fz)→Q6g fz cur.size→o+i+vs.length≤cur.size→(∀v∈vs,v.oneCell'=true) →
  (storeCells ⟨g,o,none⟩ vs i).run P w=.ok () (w.setRow g (cur.toList.take (o+i)++vs++cur.toList.drop (o+i+vs.length)).toArray)
 | [],i,cur,w,hg,_,_,_=>by
  simp only[storeCells,QH,JW,XQ,List.take_append_drop,Array.toArray_toList];rw[setRow_self w g cur t fz hg];rfl
 | v::rest,i,cur,w,hg,hfz,hl,h1=>by
  have hi:o+i<cur.size:=by grind
  have hadd:(⟨g,o,none⟩:Addr).add i=⟨g,o+i,none⟩:=by grind [Addr.add]
  have hcell:w.cell? ⟨g,o+i,none⟩=some cur[o+i]:=by grind [World.cell?]
  have hfro:w.frozen? ⟨g,o+i,none⟩=false:=by
   rcases hfz with rfl | rfl
   ·simp[World.frozen?,hg]
   grind [World.frozen?,Bool.and_eq_false_iff,decide_eq_false_iff_not]
  have hst:(store ((⟨g,o,none⟩:Addr).add i) v).run P w=.ok () (w.setRow g (cur.setIfInBounds (o+i) v)):=by
   rw[hadd,run_store P w _ v _ (h1 v (by simp)),hcell];grind [setCell_eq_setRow]
  have ih:=Kh P g o t fz rest (i+1) (cur.setIfInBounds (o+i) v) (w.setRow g (cur.setIfInBounds (o+i) v)) (setRow_heap w g cur _ t _ hg) (by simpa using hfz) (by grind) (fun x hx=>h1 x (by simp[hx]));simp only[storeCells,Sem.run_bind,hst,Result.andThen_ok,ih,setRow_setRow];grind [list_seg_step,Array.toList_setIfInBounds,Nat.add_assoc]
end Go
namespace Gd
open Go Go.RowKit
abbrev Ok:=Nat→Nat→Prop
structure Evo(ok:Ok)(w w':World):Prop where
 size:w.heap.size≤w'.heap.size
 cell:∀b o,ok b o→w'.cell? ⟨b,o,none⟩=w.cell? ⟨b,o,none⟩
 map:∀b es c,ok b 0→w.heap[b]?=some (.map es c)→w'.heap[b]?=some (.map es c)
def lt(w:World):Ok:=fun b _=>b<w.heap.size
theorem Evo.of_below{w w':World}(h:Below w.heap.size w w'):Evo (lt w) w w' :=
 ⟨h.size,fun b o hb=>h.cell (p:=⟨b,o,none⟩) hb,fun b es c hb hm=>by rw[h.block b hb]; exact hm⟩
theorem Evo.mono{ok ok':Ok}{w w':World}(h:Evo ok' w w')(hk:∀b o,ok b o→ok' b o):Evo ok w w' :=
 ⟨h.size,fun b o hb=>h.cell b o (hk b o hb),fun b es c hb hm=>h.map b es c (hk b 0 hb) hm⟩
theorem Evo.of_blocks{ok:Ok}{w w':World}(hs:w.heap.size≤w'.heap.size)(h:∀b o,ok b o→w'.heap[b]?=w.heap[b]?):Evo ok w w' :=
 ⟨hs,fun b o hb=>World.cell?_of_block (w:=w) (h b o hb),fun b es c hb hm=>by rw[h b 0 hb]; exact hm⟩
structure Ki(L:List Nat)(B:Nat)(w w':World):Prop where
 os:w'.os=w.os
 tape:w'.tape=w.tape
 output:w'.output=w.output
 size:w.heap.size≤w'.heap.size
 block:∀k,k<B→k∉L→w'.heap[k]?=w.heap[k]?
theorem Ki.refl(L:List Nat)(B:Nat)(w:World):Ki L B w w:=⟨rfl,rfl,rfl,QY _,fun _ _ _=>rfl⟩
theorem Ki.of(L:List Nat){B:Nat}{w w':World}(h:Below B w w'):Ki L B w w':=⟨h.os,h.tape,h.output,h.size,fun k hk _=>h.block k hk⟩
theorem Ki.nil{B:Nat}{w w':World}(h:Ki [] B w w'):Below B w w':=⟨h.os,h.tape,h.output,h.size,fun k hk=>h.block k hk (by simp)⟩
theorem Ki.trans{L:List Nat}{B:Nat}{a b c:World}(h:Ki L B a b)(k:Ki L B b c):Ki L B a c :=
 ⟨k.os.trans h.os,k.tape.trans h.tape,k.output.trans h.output,Nat.le_trans h.size k.size,fun i hi hn=>(k.block i hi hn).trans (h.block i hi hn)⟩
structure RT(τ:Type) where
 size:Nat
 agg:Bool
 rep:Ok→World→τ→List Value→Prop
 len:∀{ok w x cs},rep ok w x cs→cs.length=size
 one:agg=false→size=1
 flat:∀{ok w x cs},rep ok w x cs→∀c∈cs,c.oneCell'=true
 evo:∀{ok w w' x cs},rep ok w x cs→Evo ok w w'→rep ok w' x cs
 weak:∀{ok ok' w x cs},rep ok w x cs→(∀b o,ok b o→ok' b o)→rep ok' w x cs
def RT.val{τ:Type}(r:RT τ)(cs:List Value):Value:=if r.agg then .agg cs.toArray else cs.headD undef
def isV{τ:Type}(r:RT τ)(ok:Ok)(w:World)(x:τ)(v:Value):Prop:=∃cs,r.rep ok w x cs∧v=r.val cs
theorem isV.evo{τ:Type}{r:RT τ}{ok:Ok}{w w':World}{x:τ}{v:Value}(h:isV r ok w x v)(he:Evo ok w w'):isV r ok w' x v :=
 let⟨cs,hr,hv⟩:=h; ⟨cs,r.evo hr he,hv⟩
theorem isV.weak{τ:Type}{r:RT τ}{ok ok':Ok}{w:World}{x:τ}{v:Value}(h:isV r ok w x v)(hk:∀b o,ok b o→ok' b o):isV r ok' w x v :=
 let⟨cs,hr,hv⟩:=h; ⟨cs,r.weak hr hk,hv⟩
def Ox(ok:Ok)(w:World)(b o:Nat)(cs:List Value):Prop:=∀(j:Nat) u,cs[j]?=some u→ok b (o+j)∧w.cell? ⟨b,o+j,none⟩=some u
theorem Ox.evo{ok:Ok}{w w':World}{b o:Nat}{cs:List Value}(h:Ox ok w b o cs)(he:Evo ok w w'):Ox ok w' b o cs :=
 fun j u hu=>⟨(h j u hu).1,(he.cell _ _ (h j u hu).1).trans (h j u hu).2⟩
theorem Ox.weak{ok ok':Ok}{w:World}{b o:Nat}{cs:List Value}(h:Ox ok w b o cs)(hk:∀b o,ok b o→ok' b o):Ox ok' w b o cs :=
 fun j u hu=>⟨hk _ _ (h j u hu).1,(h j u hu).2⟩
def Qwz{τ:Type}(r:RT τ)(ok:Ok)(w:World)(x:τ)(p:Value):Prop :=
 ∃b o cs,p=.pointer (some ⟨b,o,none⟩)∧r.rep ok w x cs∧Ox ok w b o cs
theorem Qwz.evo{τ:Type}{r:RT τ}{ok:Ok}{w w':World}{x:τ}{v:Value}(h:Qwz r ok w x v)(he:Evo ok w w'):Qwz r ok w' x v :=
 let⟨b,o,cs,hv,hr,hc⟩:=h; ⟨b,o,cs,hv,r.evo hr he,hc.evo he⟩
theorem Qwz.weak{τ:Type}{r:RT τ}{ok ok':Ok}{w:World}{x:τ}{v:Value}(h:Qwz r ok w x v)(hk:∀b o,ok b o→ok' b o):Qwz r ok' w x v :=
 let⟨b,o,cs,hv,hr,hc⟩:=h; ⟨b,o,cs,hv,r.weak hr hk,hc.weak hk⟩
def Qfo(k:IntKind):RT Int where
 size:=1
 agg:=false
 rep:=fun _ _ x cs=>cs=[.int k x]
 len:=by grind
 one:=fun _=>rfl
 flat:=by rintro _ _ x cs rfl c hc; simp at hc; subst hc; rfl
 evo:=fun h _=>h
 weak:=fun h _=>h
def Q2v:RT Bool where
 size:=1
 agg:=false
 rep:=fun _ _ x cs=>cs=[.bool x]
 len:=by grind
 one:=fun _=>rfl
 flat:=by rintro _ _ x cs rfl c hc; simp at hc; subst hc; rfl
 evo:=fun h _=>h
 weak:=fun h _=>h
abbrev Str:=List UInt8
def Yw(s:Str):Value:=.string ⟨s.toArray⟩
def J5r:RT Str where
 size:=1
 agg:=false
 rep:=fun _ _ x cs=>cs=[Yw x]
 len:=by grind
 one:=fun _=>rfl
 flat:=by rintro _ _ x cs rfl c hc; simp at hc; subst hc; rfl
 evo:=fun h _=>h
 weak:=fun h _=>h
def Jaw{τ:Type}(r:RT τ)(ok:Ok)(w:World)(xs:List τ)(v:Value):Prop :=
 ∃A n c,v=.slice A n c∧xs.length=n∧n≤c ∧
  (0<n→∃b o,A=some ⟨b,o,none⟩∧∀i x,xs[i]?=some x→∃cs,r.rep ok w x cs∧Ox ok w b (o+i*r.size) cs)
def rSl{τ:Type}(r:RT τ):RT (List τ) where
 size:=1
 agg:=false
 rep:=fun ok w xs cs=>∃v,cs=[v]∧Jaw r ok w xs v
 len:=by grind
 one:=fun _=>rfl
 flat:=by rintro _ _ x cs ⟨v,rfl,A,n,c,rfl,_⟩ d hd; simp at hd; subst hd; rfl
 evo:=by
  rintro ok w w' xs cs ⟨v,rfl,A,n,c,rfl,hl,hc,hn⟩ he;refine⟨_,rfl,A,n,c,rfl,hl,hc,fun h0=>?_⟩;obtain⟨b,o,hA,hx⟩:=hn h0;refine⟨b,o,hA,fun i x hi=>?_⟩;obtain⟨cs,hr,ha⟩:=hx i x hi;exact⟨cs,r.evo hr he,ha.evo he⟩
 weak:=by
  rintro ok ok' w xs cs ⟨v,rfl,A,n,c,rfl,hl,hc,hn⟩ hk;refine⟨_,rfl,A,n,c,rfl,hl,hc,fun h0=>?_⟩;obtain⟨b,o,hA,hx⟩:=hn h0;refine⟨b,o,hA,fun i x hi=>?_⟩;obtain⟨cs,hr,ha⟩:=hx i x hi;exact⟨cs,r.weak hr hk,ha.weak hk⟩
theorem Jy3{k:IntKind}{ok:Ok}{w:World}{x:Int}{v:Value}:isV (Qfo k) ok w x v↔v=.int k x:=by
 constructor
 ·rintro⟨cs,rfl,rfl⟩; rfl
 ·rintro rfl; exact⟨_,rfl,rfl⟩
theorem Qw0{ok:Ok}{w:World}{x:Bool}{v:Value}:isV Q2v ok w x v↔v=.bool x:=by
 constructor
 ·rintro⟨cs,rfl,rfl⟩; rfl
 ·rintro rfl; exact⟨_,rfl,rfl⟩
theorem Jy4{ok:Ok}{w:World}{x:Str}{v:Value}:isV J5r ok w x v↔v=Yw x:=by
 constructor
 ·rintro⟨cs,rfl,rfl⟩; rfl
 ·rintro rfl; exact⟨_,rfl,rfl⟩
theorem Xv{τ:Type}{r:RT τ}{ok:Ok}{w:World}{xs:List τ}{v:Value}:isV (rSl r) ok w xs v↔Jaw r ok w xs v:=by
 constructor
 ·rintro⟨cs,⟨v',rfl,h⟩,rfl⟩; exact h
 ·intro h; exact⟨[v],⟨v,rfl,h⟩,rfl⟩
structure Fld(σ:Type) where
 τ:Type
 r:RT τ
 get:σ→τ
def Ga{τ:Type}(r:RT τ)(ok:Ok)(w:World):List τ→List Value→Prop
 | [],cs=>cs=[]
 | x::xs,cs=>∃c1 c2,cs=c1++c2∧r.rep ok w x c1∧Ga r ok w xs c2
theorem Jax{τ:Type}{r:RT τ}{ok:Ok}{w:World}{xs:List τ}{cs:List Value}(h:Ga r ok w xs cs):cs.length=xs.length*r.size:=by
 induction xs generalizing cs with
 | nil=>grind [Ga]
 | cons x xs ih=>obtain⟨c1,c2,rfl,h1,h2⟩:=h; simp[r.len h1,ih h2,Nat.add_mul,XT]
def Jsz{τ:Type}(n:Nat)(r:RT τ):RT (List τ) where
 size:=n*r.size
 agg:=true
 rep:=fun ok w xs cs=>xs.length=n∧Ga r ok w xs cs
 len:=by rintro ok w xs cs ⟨rfl,h⟩; exact Jax h
 one:=fun h=>by cases h
 flat:=by
  rintro ok w xs cs ⟨hl,h⟩;clear hl
  induction xs generalizing cs with
  | nil=>grind [Ga]
  | cons f fs ih =>
   obtain⟨c1,c2,rfl,h1,h2⟩:=h;intro c hc;rcases QZ.1 hc with hc | hc
   ·exact r.flat h1 c hc
   ·exact ih h2 c hc
 evo:=by
  rintro ok w w' xs cs ⟨hl,h⟩ he;refine⟨hl,?_⟩;clear hl
  induction xs generalizing cs with
  | nil=>exact h
  | cons f fs ih=>obtain⟨c1,c2,rfl,h1,h2⟩:=h; exact⟨c1,c2,rfl,r.evo h1 he,ih h2⟩
 weak:=by
  rintro ok ok' w xs cs ⟨hl,h⟩ he;refine⟨hl,?_⟩;clear hl
  induction xs generalizing cs with
  | nil=>exact h
  | cons f fs ih=>obtain⟨c1,c2,rfl,h1,h2⟩:=h; exact⟨c1,c2,rfl,r.weak h1 he,ih h2⟩
structure DF where
 p:Ok→World→Prop
 evo:∀{ok w w'},p ok w→Evo ok w w'→p ok w'
 weak:∀{ok ok' w},p ok w→(∀b o,ok b o→ok' b o)→p ok' w
def DF.v{τ:Type}(r:RT τ)(x:τ)(v:Value):DF:=⟨fun ok w=>isV r ok w x v,fun h he=>h.evo he,fun h hk=>h.weak hk⟩
def Qpg(ok:Ok)(w:World):List DF→Prop
 | []=>True
 | d::ds=>d.p ok w∧Qpg ok w ds
theorem Qpg.evo{ok:Ok}{w w':World}{D:List DF}(h:Qpg ok w D)(he:Evo ok w w'):Qpg ok w' D:=by
 induction D with
 | nil=>trivial
 | cons d ds ih=>exact⟨d.evo h.1 he,ih h.2⟩
theorem Qpg.weak{ok ok':Ok}{w:World}{D:List DF}(h:Qpg ok w D)(hk:∀b o,ok b o→ok' b o):Qpg ok' w D:=by
 induction D with
 | nil=>trivial
 | cons d ds ih=>exact⟨d.weak h.1 hk,ih h.2⟩
theorem Qpg.get{ok:Ok}{w:World}{D:List DF}(h:Qpg ok w D){i:Nat}{d:DF}(hi:D[i]?=some d):d.p ok w:=by
 induction D generalizing i with
 | nil=>simp at hi
 | cons e ds ih =>
  cases i with
  | zero=>simp at hi; subst hi; exact h.1
  | succ i=>simp at hi; exact ih h.2 hi
inductive AV where
 | v (x:Value)
 | o (id off:Nat)
structure HB where
 cs:List Value
 t:TypeId
def Jy{α:Type}:List (Nat×α)→Nat→Option α
 | [],_=>none
 | (k,x)::l,t=>bif Nat.beq k t then some x else Jy l t
theorem Qrk{α:Type}{l:List (Nat×α)}{t:Nat}{x:α}(h:Jy l t=some x):(t,x)∈l:=by
 induction l with
 | nil=>simp[Jy]at h
 | cons p l ih =>
  obtain⟨k,y⟩:=p;simp only[Jy]at h;cases hb:Nat.beq k t with
  | true=>rw[hb]at h; simp_all
  | false=>rw[hb]at h; grind
def Jay{α:Type}:List (Nat×α)→Nat→List (Nat×α)
 | [],_=>[]
 | (k,x)::l,t=>bif Nat.beq k t then Jay l t else(k,x)::Jay l t
theorem Js0{α:Type}{l:List (Nat×α)}{t:Nat}{p:Nat×α}(h:p∈Jay l t):p∈l∧p.1≠t:=by
 induction l with
 | nil=>simp[Jay]at h
 | cons q l ih =>
  obtain⟨k,y⟩:=q;simp only[Jay]at h;cases hb:Nat.beq k t with
  | true=>rw[hb]at h; grind
  | false =>
   rw[hb]at h;simp only[cond_false,QX]at h;rcases h with rfl | h
   ·grind [Nat.beq_refl]
   grind
def Qfp{α:Type}(l:List (Nat×α))(t:Nat)(x:α):List (Nat×α):=(t,x)::Jay l t
def den(β:Nat→Nat):AV→Value
 | .v x=>x
 | .o id off=>.pointer (some ⟨β id,off,none⟩)
def Gj:Value→Nat
 | .slice _ n _=>n
 | _=>0
structure TL where
 blks:Nat→Prop
 cov:Nat→Nat→Prop
 cb:∀{b o},cov b o→blks b
 p:Ok→World→Prop
 keep:∀{ok w w'},p ok w→(∀g,blks g→w'.heap[g]?=w.heap[g]?)→Evo ok w w'→p ok w'
 weak:∀{ok ok' w},p ok w→(∀b o,ok b o→ok' b o)→p ok' w
 lt:∀{ok w},p ok w→∀g,blks g→g<w.heap.size
theorem Qfq{base e s:Nat}{v:Value}{n:Nat}{xs:List Value}{w w':World}(hx:w.ownsRowS base e s v n xs)(hb:∀g,v.ownBlock=some g→w'.heap[g]?=w.heap[g]?):w'.ownsRowS base e s v n xs:=by
 refine⟨hx.1,?_⟩;rcases hx.2 with h1 | ⟨g,cap,cur,fz,hv,hg,hh,r⟩
 ·exact .inl h1
 ·refine .inr ⟨g,cap,cur,fz,hv,hg,?_,r⟩
  rw[hb g (by rw[hv]; rfl)]; exact hh
def tl(v:Value)(e s:Nat):TL where
 blks:=fun g=>v.ownBlock=some g
 cov:=fun b o=>v.ownBlock=some b∧Gj v*s≤o
 cb:=fun h=>h.1
 p:=fun _ w=>∃xs,w.ownsRowS 0 e s v (Gj v) xs
 keep:=fun⟨xs,h⟩ hb _=>⟨xs,Qfq h hb⟩
 weak:=fun h _=>h
 lt:=fun⟨_,h⟩ g hg=>(h.lt g hg).2
abbrev GL:=List (Nat×AV)
abbrev HL:=List (Nat×HB)
def Jr(ok0:Ok)(B:Nat)(β:Nat→Nat)(H:HL)(O:List TL)(w:World):Ok:=fun b o =>
 (ok0 b o∨B≤b)∧b<w.heap.size∧(∀h∈H,β h.1≠b)∧(∀t∈O,¬ t.cov b o)
structure Cx where
 n:Nat
 ok:Ok
 w:World
 res:List Nat
 a0:Act
 pin:Option (Nat→Nat)
 lent:List Nat
 lok:∀g∈lent,∀o,ok g o
 dfs:List Deferred
def okL(L:List Nat)(ok:Ok):Ok:=fun b o=>ok b o∨b∈L
abbrev cxL(L:List Nat)(n:Nat)(ok:Ok)(w:World):Cx:=⟨n,okL L ok,w,[],⟨#[],[]⟩,none,L,fun _ hg _=>.inr hg,[]⟩
def Cx.mine(X:Cx)(g:Nat):Prop:=X.w.heap.size≤g∨g∈X.lent
theorem Cx.mine_ok{X:Cx}{g:Nat}(h:X.mine g)(o:Nat):X.ok g o∨X.w.heap.size≤g:=h.elim .inr fun h=>.inl (X.lok g h o)
def Qtt:List Nat→Nat→Bool
 | [],_=>true
 | k::l,t=>bif Nat.beq k t then false else Qtt l t
theorem Jaz{l:List Nat}{t:Nat}(h:Qtt l t=true):t∉l:=by
 induction l with
 | nil=>simp
 | cons k l ih =>
  simp only[Qtt]at h;cases hb:Nat.beq k t with
  | true=>rw[hb]at h; cases h
  | false =>
   rw[hb]at h;intro hm;simp_all
def okD(X:Cx)(d:Nat):Bool:=Nat.blt d X.n&&(Qtt X.res d&&Nat.blt d 100000)
theorem Qw1{X:Cx}{d:Nat}(h:okD X d=true):d<X.n:=by
 simp_all [okD,QQ,Nat.lt_of_succ_le,QV]
theorem Q6h{X:Cx}{d:Nat}(h:okD X d=true):d∉X.res:=by
 simp_all [okD,QQ,Jaz]
theorem Qlq{X:Cx}{d:Nat}(h:okD X d=true):Nat.blt d 100000=true:=by
 simp_all [okD,QQ]
structure Sb(β:Nat→Nat)(X:Cx)(G:GL)(D:List DF)(H:HL)(O:List TL)(a:Act)(w:World):Prop where
 sz:a.tmps.size=X.n
 df:a.defers=X.dfs
 fr:∀t∈X.res,a.tmps[t]?=X.a0.tmps[t]?
 pn:∀f,X.pin=some f→∀h∈H,β h.1=f h.1
 tm:∀p∈G,a.tmps[p.1]?=some (den β p.2)
 bel:Ki X.lent X.w.heap.size X.w w
 dat:Qpg (Jr X.ok X.w.heap.size β H O w) w D
 obj:∀h∈H,w.heap[β h.1]?=some (.cells h.2.cs.toArray h.2.t (0,0))∧X.mine (β h.1)
 own:∀t∈O,t.p (Jr X.ok X.w.heap.size β H O w) w∧∀g,t.blks g→X.mine g
 dHH:∀h∈H,∀h'∈H,h.1≠h'.1→β h.1≠β h'.1
 dHO:∀h∈H,∀t∈O,¬ t.blks (β h.1)
 dOO:O.Pairwise fun s t=>∀g,s.blks g→¬ t.blks g
section
variable {β:Nat→Nat} {X:Cx} {G:GL} {D:List DF} {H:HL} {O:List TL} {a:Act} {w w':World}
theorem Qrl{ok0:Ok}(h:w.heap.size≤w'.heap.size){B:Nat}(b o:Nat):Jr ok0 B β H O w b o→Jr ok0 B β H O w' b o :=
 fun⟨h1,h2,h3,h4⟩=>⟨h1,by omega,h3,h4⟩
theorem Uc{w:World}{g:Nat}{o:Obj}(h:w.heap[g]?=some o):g<w.heap.size:=by
 grind
theorem Sb.olt(h:Sb β X G D H O a w){t:TL}(ht:t∈O){g:Nat}(hg:t.blks g):g<w.heap.size:=t.lt (h.own t ht).1 g hg
theorem Sb.hlt(h:Sb β X G D H O a w){p:Nat×HB}(hp:p∈H):β p.1<w.heap.size:=Uc (h.obj p hp).1
theorem Sb.below(h:Sb β X G D H O a w)(hb:Below w.heap.size w w'):Sb β X G D H O a w' where
 sz:=h.sz
 df:=h.df
 fr:=h.fr
 pn:=h.pn
 tm:=h.tm
 bel:=h.bel.trans (Ki.of _ (hb.mono h.bel.size))
 dat:=(h.dat.evo ((Evo.of_below hb).mono fun b o hk=>hk.2.1)).weak (Qrl hb.size)
 obj:=fun o ho=>⟨by rw[hb.block _ (Uc (h.obj o ho).1),(h.obj o ho).1],(h.obj o ho).2⟩
 own:=fun t ht=>⟨t.weak (t.keep (h.own t ht).1 (fun g hg=>hb.block g (h.olt ht hg)) ((Evo.of_below hb).mono fun b o hk=>hk.2.1)) (Qrl hb.size),(h.own t ht).2⟩
 dHH:=h.dHH
 dHO:=h.dHO
 dOO:=h.dOO
theorem Sb.act{a':Act}{G':GL}(h:Sb β X G D H O a w)(hs:a'.tmps.size=a.tmps.size)(hd:a'.defers=a.defers)(hr:∀t∈X.res,a'.tmps[t]?=a.tmps[t]?)
  (hg:∀p∈G',a'.tmps[p.1]?=some (den β p.2)):Sb β X G' D H O a' w :=
 { h with sz:=hs.trans h.sz,df:=hd.trans h.df,fr:=fun t ht=>(hr t ht).trans (h.fr t ht),tm:=hg }
theorem Sb.put(h:Sb β X G D H O a w){t:Nat}(ht:okD X t=true)(x:AV):Sb β X (Qfp G t x) D H O (a.put (some t) (den β x)) w:=by
 refine h.act (by simp[Act.put]) rfl (fun k hk=>?_) fun p hp=>?_
 ·have hne:t≠k:=fun e=>Q6h ht (e▸hk)
  simp[Act.put,hne]
 simp only[Qfp,QX]at hp;rcases hp with rfl | hp
 ·simp[Act.put,h.sz,Qw1 ht]
 ·obtain⟨hp,hne⟩:=Js0 hp
  have hne':t≠p.1:=fun e=>hne e.symm;simp[Act.put,hne',h.tm p hp]
end
end Gd

/- The quiet operations of a walk, evaluated by a function; its soundness. -/
namespace Gd
open Go Go.RowKit
structure TE where
 t:TypeId
 d:TypeDesc
 z:Value
 size:Nat
 bytes:Nat
abbrev Tab:=List TE
def Jg(P:Program):Tab→Prop
 | []=>True
 | e::T=>(((P.info? e.t).map (fun i=>(i.zero,i.size,i.bytes))=some (some e.z,e.size,e.bytes)∧P.underlying e.t=some e.d)∧(P.stoodInHeld e.t||P.eqGuardType P.depth e.t)=false)∧Jg P T
def Qo:Tab→TypeId→Option TE
 | [],_=>none
 | e::T,t=>bif Nat.beq e.t t then some e else Qo T t
theorem J0{P:Program}{T:Tab}(h:Jg P T){t:TypeId}{e:TE}(he:Qo T t=some e) :
  (P.info? t).map (fun i=>(i.zero,i.size,i.bytes))=some (some e.z,e.size,e.bytes)∧P.underlying t=some e.d:=by
 induction T with
 | nil=>simp[Qo]at he
 | cons x T ih =>
  simp only[Qo]at he;cases hb:Nat.beq x.t t with
  | true=>rw[hb]at he; simp only[cond_true,Option.some.injEq]at he; subst he; have:=Nat.eq_of_beq_eq_true hb; subst this; exact h.1.1
  | false=>rw[hb]at he; exact ih h.2 he
theorem Ja0{P:Program}{T:Tab}(h:Jg P T){t:TypeId}{e:TE}(he:Qo T t=some e):P.stoodInHeld t=false∧P.eqGuardType P.depth t=false:=by
 induction T with
 | nil=>simp[Qo]at he
 | cons x T ih =>
  simp only[Qo]at he;cases hb:Nat.beq x.t t with
  | true=>rw[hb]at he; simp only[cond_true,Option.some.injEq]at he; subst he; have:=Nat.eq_of_beq_eq_true hb; subst this; simpa[JO]using h.1.2
  | false=>rw[hb]at he; exact ih h.2 he
theorem Ek{P:Program}{T:Tab}(h:Jg P T){t:TypeId}{e:TE}(he:Qo T t=some e) :
  ∃i,P.info? t=some i∧i.zero=some e.z∧i.size=e.size∧i.bytes=e.bytes:=by
 have:=(J0 h he).1;simp_all
def Hk:TypeDesc→Bool
 | .struct _ | .array _ _=>true
 | _=>false
section
variable {P:Program} {T:Tab} (hT:Jg P T) (w:World)
include hT
theorem Qph{t:TypeId}{e:TE}(he:Qo T t=some e):∃i,(typeInfo t).run P w=.ok i w∧i.zero=some e.z∧i.size=e.size∧i.bytes=e.bytes:=by
 obtain⟨i,hi,h1,h2,h3⟩:=Ek hT he;simp_all [typeInfo]
theorem Yn{t:TypeId}{e:TE}(he:Qo T t=some e):(Go.sizeOf t).run P w=.ok e.size w:=by
 obtain⟨i,hi,h1,h2,h3⟩:=Qph hT w he;simp[Go.sizeOf,hi,h2]
theorem Ze{t:TypeId}{e:TE}(he:Qo T t=some e):(zeroValue t).run P w=.ok e.z w:=by
 obtain⟨i,hi,h1,h2,h3⟩:=Qph hT w he;simp[zeroValue,hi,h1]
theorem J7{t:TypeId}{e:TE}(he:Qo T t=some e):(underlying t).run P w=.ok e.d w :=
 run_underlying (J0 hT he).2 w
theorem Q2w{t:TypeId}{e:TE}(he:Qo T t=some e):(isAgg t).run P w=.ok (Hk e.d) w:=by
 simp only[isAgg,Sem.run_bind,J7 hT w he,Result.andThen_ok];cases e.d<;>rfl
theorem Qw2{t:TypeId}{e:TE}(he:Qo T t=some e)(cs:List Value)(off:Nat){v:Value}
  (hv:(if Hk e.d then some (.agg ((cs.drop off).take e.size).toArray)else cs[off]?)=some v):(part t cs.toArray off).run P w=.ok v w:=by
 simp only[part,Sem.run_bind,Q2w hT w he,Result.andThen_ok];cases ha:Hk e.d with
 | true =>
  rw[ha]at hv;simp only[if_true,Option.some.injEq]at hv;subst hv;simp[Yn hT w he,List.take_drop]
 | false =>
  rw[ha]at hv;simp_all
theorem Qpi{t:TypeId}{e:TE}(he:Qo T t=some e)(b o:Nat)(cs:List Value)(hl:cs.length=e.size)(hone:Hk e.d=false→cs.length=1)
  (hc:∀(j:Nat) u,cs[j]?=some u→w.cell? ⟨b,o+j,none⟩=some u) :
  (loadVar t ⟨b,o,none⟩).run P w=.ok (if Hk e.d then .agg cs.toArray else cs.headD undef) w:=by
 simp only[loadVar,Sem.run_bind,Q2w hT w he,Result.andThen_ok];cases ha:Hk e.d with
 | true =>
  simp only[if_true,Sem.run_bind,Yn hT w he,Result.andThen_ok,←hl];rw[run_loadCells_list w ⟨b,o,none⟩ cs (fun j v hj=>by rw[Addr.add_lit]; exact hc j v hj)];simp
 | false =>
  have h1:=hone ha
  match cs,h1 with
  | [c],_ =>
   have:=hc 0 c rfl;simp_all
end
theorem R4(β:Nat→Nat)(x:Value):den β (.v x)=x:=rfl
def gv(G:GL):Operand→Option AV
 | .tmp t=>Jy G t
 | .const v=>some (.v v)
 | .func f=>some (.v (.func (.func f) #[] #[]))
 | .global g=>some (.v (.pointer (some ⟨g,0,none⟩)))
def Jhu(op:BinOp)(k:IntKind)(a b:Int):Option Value :=
 match op with
 | .add=>some (.int k (k.wrap (a+b)))
 | .sub=>some (.int k (k.wrap (a - b)))
 | .mul=>some (.int k (k.wrap (a*b)))
 | .eql=>some (.bool (a==b))
 | .neq=>some (.bool (a != b))
 | .lss=>some (.bool (decide (a<b)))
 | .leq=>some (.bool (decide (a≤b)))
 | .gtr=>some (.bool (decide (a>b)))
 | .geq=>some (.bool (decide (a≥b)))
 | .and=>some (.int k (Go.bits .and k a b))
 | .or=>some (.int k (Go.bits .or k a b))
 | .xor=>some (.int k (Go.bits .xor k a b))
 | .andNot=>some (.int k (Go.bits .andNot k a b))
 | _=>none
def Q6i(op:BinOp)(k:IntKind)(a:Int):Int→Option Value
 | .ofNat (b+1)=>match op with
  | .quo=>some (.int k (k.wrap (a.tdiv (.ofNat (b+1)))))
  | .rem=>some (.int k (a.tmod (.ofNat (b+1))))
  | _=>none
 | _=>none
def Jhv(op:BinOp)(a b:Str):Option Value :=
 match op with
 | .eql=>some (.bool (a==b))
 | .neq=>some (.bool !(a==b))
 | .lss=>some (.bool (Op.bytesLess a b))
 | .leq=>some (.bool (Op.bytesLess a b||a==b))
 | .gtr=>some (.bool !(Op.bytesLess a b||a==b))
 | .geq=>some (.bool !(Op.bytesLess a b))
 | _=>none
def Qdz:IntKind→IntKind→Bool
 | .i8,.i8 | .i16,.i16 | .i32,.i32 | .i64,.i64 | .u8,.u8 | .u16,.u16 | .u32,.u32 | .u64,.u64=>true
 | _,_=>false
theorem O6{a b:IntKind}(h:Qdz a b=true):a=b:=by cases a<;>cases b<;>simp_all [Qdz]
def J1o:BinOp→Bool
 | .quo | .rem=>true
 | _=>false
def Qwb(T:Tab)(t:TypeId):Bool :=
 match Qo T t with
 | some ⟨_,.bool,_,_,_⟩=>true
 | _=>false
def Qw3(T:Tab)(op:BinOp)(t:TypeId)(x y:Value):Option Value :=
 match x,y with
 | .int k a,.int k' b=>bif Qdz k k' then(bif J1o op then Q6i op k a b else Jhu op k a b)else none
 | .bool a,.bool b=>bif Qwb T t then(match op with
  | .eql=>some (.bool (a==b))
  | .neq=>some (.bool (a != b))
  | _=>none)else none
 | .string ⟨⟨a⟩⟩,.string ⟨⟨b⟩⟩=>Jhv op a b
 | _,_=>none
def Js1(op:UnOp)(x:Value):Option Value :=
 match op,x with
 | .neg,.int k n=>some (.int k (k.wrap (0 - n)))
 | .not,.bool b=>some (.bool !b)
 | _,_=>none
def Yax(c:Bool)(x y:Option AV):Option AV :=
 match x,y with
 | some (.v (.bool p)),some (.v (.bool q))=>some (.v (.bool (bif c then p else q)))
 | _,_=>match c with
  | true=>x
  | false=>y
def Qw4(T:Tab)(fs:Array Field)(f:Nat):Option Nat :=
 match fs[f]? with
 | some fd=>match Qo T fd.type with
  | some ⟨_,_,_,_+1,_⟩=>some fd.offset
  | _=>none
 | none=>none
def Qpj(T:Tab):List Field→Option (List (Nat×Nat))
 | []=>some []
 | f::fs=>match Qo T f.type,Qpj T fs with
  | some e,some ps=>some ((f.offset,e.size)::ps)
  | _,_=>none
def evParts(G:GL):List (Nat×Operand)→Option (List (Nat×Value))
 | []=>some []
 | (i,x)::xs=>match gv G x,evParts G xs with
  | some (.v v),some vs=>some ((i,v)::vs)
  | _,_=>none
def Ja1(cs:List Value)(off:Nat)(vs:List Value):List Value:=cs.take off++vs++cs.drop (off+vs.length)
def Q4:Value→List Value
 | .agg ⟨cs⟩=>cs
 | v=>[v]
theorem Uk(v:Value):Q4 v=v.cells.toList:=by cases v<;>rfl
def Qbt(ps:Nat→Option (Nat×Nat))(cs:List Value):List (Nat×Value)→Option (List Value)
 | []=>some cs
 | (i,v)::rest=>match ps i with
  | none=>none
  | some (off,size) =>
   bif Nat.beq (Q4 v).length size&&Nat.ble (off+(Q4 v).length) cs.length then Qbt ps (Ja1 cs off (Q4 v)) rest else none
section
variable {P:Program} {T:Tab} {β:Nat→Nat} {X:Cx} {G:GL} {D:List DF} {H:HL} {O:List TL} {a:Act} {w w':World}
theorem Sb.ev(h:Sb β X G D H O a w){x:Operand}{v:AV}(hx:gv G x=some v):a.eval x=den β v:=by
 cases x with
 | tmp t =>
  have:=h.tm _ (Qrk hx);simp_all [Act.eval]
 | const v=>simp[gv]at hx; subst hx; rfl
 | func f=>simp[gv]at hx; subst hx; rfl
 | global g=>simp[gv]at hx; subst hx; rfl
theorem Jot{op:BinOp}{t:TypeId}{a b:Str}{v:Value}(h:Jhv op a b=some v):(binOp op t (.string ⟨⟨a⟩⟩) (.string ⟨⟨b⟩⟩))=(pure v:Sem Value):=by
 have ha:(ByteArray.mk ⟨a⟩).toList=a:=ByteArray.toList_mk a;have hb:(ByteArray.mk ⟨b⟩).toList=b:=ByteArray.toList_mk b;cases op<;>simp[Jhv]at h<;>subst h<;>simp[binOp,Op.stringOp,ha,hb]
theorem Jou{op:BinOp}{t:TypeId}{k:IntKind}{a b:Int}{v:Value}(h:Jhu op k a b=some v):(binOp op t (.int k a) (.int k b))=(pure v:Sem Value):=by
 cases op<;>simp[Jhu]at h<;>subst h<;>simp[binOp,Op.intArith,Op.intCmp]<;>rfl
theorem Jhw{op:BinOp}{t:TypeId}{k:IntKind}{a b:Int}{v:Value}(h:Q6i op k a b=some v):(binOp op t (.int k a) (.int k b))=(pure v:Sem Value):=by
 unfold Q6i at h;split at h
 ·rename_i m
  have hm:(Int.ofNat (m+1))≠0:=by grind
  cases op<;>first | (simp at h; done) | skip
  ·simp_all [Option.some.injEq,binOp_quo,Op.intDiv,if_neg]
  simp_all [Option.some.injEq,binOp_rem,Op.intDiv,if_neg]
 ·cases h
theorem Jhx(hT:Jg P T){t:TypeId}(h:Qwb T t=true):P.underlying t=some .bool:=by
 unfold Qwb at h;split at h
 ·rename_i he; exact(J0 hT he).2
 ·cases h
theorem Jhy{t:TypeId}(ht:P.underlying t=some .bool)(a b:Bool)(w:World):(Op.equal t (.bool a) (.bool b)).run P w=.ok (a==b) w:=by
 have h:∀d:Nat,(Op.equalIn (d+1) t (.bool a) (.bool b)).run P w=.ok (a==b) w:=fun d=>by
  simp[Op.equalIn,run_underlying ht]
 exact h 9999
theorem Jov(hT:Jg P T){op:BinOp}{t:TypeId}{x y v:Value}(h:Qw3 T op t x y=some v)(w:World):(binOp op t x y).run P w=.ok v w:=by
 unfold Qw3 at h;split at h
 ·rename_i k a k' b
  cases hk:Qdz k k' with
  | false=>rw[hk]at h; cases h
  | true =>
   rw[hk]at h;have:=O6 hk;subst this;simp only[cond_true]at h;cases hd:J1o op with
   | true=>rw[hd]at h; rw[Jhw h]; rfl
   | false=>rw[hd]at h; rw[Jou h]; rfl
 ·rename_i a b
  cases hb:Qwb T t with
  | false=>rw[hb]at h; cases h
  | true =>
   rw[hb]at h;have hu:=Jhx hT hb;cases op<;>simp at h<;>subst h<;>simp[binOp,Jhy hu];cases a<;>cases b<;>rfl
 ·rw[Jot h]; rfl
 ·cases h
theorem Js2{op:UnOp}{x v:Value}(h:Js1 op x=some v)(w:World):(Op.unary op x).run P w=.ok v w:=by
 unfold Js1 at h;split at h<;>simp at h<;>subst h<;>simp[Op.unary,Op.intArith]
theorem Q6j{op:BinOp}{t:TypeId}{x y:Value}{p q:Operand}{v:Value}(h:Qw3 T op t x y=some v):eqGuard op t p q x y=pure ():=by
 unfold Qw3 at h;grind [eqGuard_at_int,eqGuard_at_bool,eqGuard_at_string]
theorem Ja2{fs:Array Field}{f k:Nat}(h:Qw4 T fs f=some k):∃fd,fs[f]?=some fd∧fd.offset=k∧∃e,Qo T fd.type=some e∧e.size≠0:=by
 grind [Qw4]
theorem Js3(l:List UInt8):(ByteArray.mk ⟨l⟩).size=l.length:=rfl
theorem Qw5(hT:Jg P T):∀{fs:List Field} {ps:List (Nat×Nat)},Qpj T fs=some ps→fs.mapM (fun f=>(P.info? f.type).map fun i=>(f.offset,i.size))=some ps
 | [],ps,h=>by grind [Qpj]
 | f::fs,ps,h=>by
  simp only[Qpj]at h;split at h
  ·rename_i e ps' he hp
   simp at h; subst h;obtain⟨i,hi,_,hs,_⟩:=Ek hT he;simp[ZS,hi,hs,Qw5 hT hp]
  ·cases h
theorem Qnw(h:Sb β X G D H O a w):∀{xs:List (Nat×Operand)} {vs:List (Nat×Value)},evParts G xs=some vs→xs.map (fun p=>(p.1,a.eval p.2))=vs
 | [],vs,hv=>by grind [evParts]
 | (i,x)::xs,vs,hv=>by
  simp only[evParts]at hv;split at hv
  ·rename_i v us h1 h2
   simp at hv; subst hv;simp[h.ev h1,R4,Qnw h h2]
  ·cases hv
theorem Jy5(cs:List Value)(off:Nat)(vs:List Value)(hle:off+vs.length≤cs.length) :
  (vs.toArray.zipIdx.foldl (fun cs (c,j)=>cs.setIfInBounds (off+j) c) cs.toArray)=(Ja1 cs off vs).toArray:=by
 have key:∀(vs:List Value) (k:Nat) (cs:List Value),off+k+vs.length≤cs.length →
   (vs.zipIdx k).foldl (fun(cs:Array Value) (p:Value×Nat)=>cs.setIfInBounds (off+p.2) p.1) cs.toArray=(cs.take (off+k)++vs++cs.drop (off+k+vs.length)).toArray:=by
  intro vs
  induction vs with
  | nil=>simp_all
  | cons v vs ih =>
   intro k cs hl;simp only[List.zipIdx_cons,List.foldl_cons,List.length_cons]at hl ⊢;have hlt:off+k<cs.length:=by omega
   rw[List.setIfInBounds_toArray,ih (k+1) _ (by simp; omega)];congr 1;have e1:off+(k+1)=off+k+1:=by omega
   rw[e1,List.take_set,List.drop_set_of_lt (by omega)];rw[XH hlt,List.set_append_right _ _ (by simp; omega)];simp only[List.length_take,Nat.min_eq_left (Nat.le_of_lt hlt),Nat.sub_self,List.set_cons_zero];grind
 have:=key vs 0 cs (by simpa using hle);simp_all [XQ,Array.foldl_toList,Ja1]
theorem Qd0(ps:Nat→Option (Nat×Nat)):∀{vs:List (Nat×Value)} {cs cs':List Value},Qbt ps cs vs=some cs'→Instr.fill ps cs.toArray vs=some cs'.toArray
 | [],cs,cs',h=>by simp[Qbt]at h; subst h; rfl
 | (i,v)::rest,cs,cs',h=>by
  simp only[Qbt]at h;split at h
  ·cases h
  ·rename_i off size hp
   rw[Uk]at h;cases hb:(Nat.beq v.cells.toList.length size&&Nat.ble (off+v.cells.toList.length) cs.length)with
   | false=>rw[hb]at h; cases h
   | true =>
    rw[hb]at h;simp only[cond_true]at h;simp only[QQ]at hb;have h1:=Nat.eq_of_beq_eq_true hb.1;have h2:=QV hb.2;have:=Qd0 ps h;simp only[Array.length_toList]at h1 h2;unfold Instr.fill;simp only[hp];rw[if_neg (by simp; omega)];have hl:=Jy5 cs off v.cells.toList (by simpa using h2);simp_all
end
end Gd

/- Sequences of quiet operations, new objects and stores into them. -/
namespace Gd
open Go Go.RowKit
def Nu(ops:Array Oper)(G:GL)(o:Oper):Option Bool :=
 match o.guard with
 | none=>some true
 | some (j,want)=>match ops[j]? with
  | some p=>match p.dst with
   | some t=>match Jy G t with
    | some (.v (.bool b))=>some (b==want)
    | some (.v (.tuple _))=>some false
    | _=>none
   | none=>none
  | none=>none
section
variable {P:Program} {T:Tab} {β:Nat→Nat} {X:Cx} {G:GL} {D:List DF} {H:HL} {O:List TL} {a:Act} {w w':World}
theorem Wm(h:Sb β X G D H O a w){ops:Array Oper}{o:Oper}{g:Bool}(hg:Nu ops G o=some g):Region.wanted o (yielded ops a.tmps)=g:=by
 unfold Nu at hg;unfold Region.wanted;split at hg
 ·grind
 ·rename_i j want hn
  rw[hn];split at hg
  ·rename_i p hp
   split at hg
   ·rename_i t ht
    split at hg
    ·rename_i b hb
     simp at hg;have:=h.tm _ (Qrk hb);simp_all [R4,yielded]
    ·rename_i hb
     simp at hg;have:=h.tm _ (Qrk hb);grind [R4,yielded]
    ·cases hg
   ·cases hg
  ·cases hg
theorem J5{ops:Array Oper}{Q:Exit→Act→World→Prop}{rest:List Oper}{o:Oper}(hw:Region.wanted o (yielded ops a.tmps)=true)
  (h:o.wp P a w (wpList P ops Q rest) Q):wpList P ops Q (o::rest) a w:=by
 simp_all [wpList,if_pos]
theorem Vi{o:Oper}{next:Act→World→Prop}{Q:Exit→Act→World→Prop}{v:Value}(hr:(execOp a.eval o).run P w=.ok (.value v) w')(h:next (a.put o.dst v) w') :
  o.wp P a w next Q:=by
 unfold Oper.wp; rw[hr]; exact h
end
end Gd

/- Steps of a walk that read data, call, append. -/
namespace Gd
open Go Go.RowKit
section
variable {P:Program} {T:Tab} {β:Nat→Nat} {X:Cx} {G:GL} {D:List DF} {H:HL} {O:List TL} {a:Act} {w w':World}
theorem Sb.d(h:Sb β X G D H O a w)(i:Nat){d:DF}(hi:D[i]?=some d):d.p (Jr X.ok X.w.heap.size β H O w) w:=h.dat.get hi
theorem Sb.addD(h:Sb β X G D H O a w){d:DF}(hd:d.p (Jr X.ok X.w.heap.size β H O w) w):Sb β X G (d::D) H O a w:={ h with dat:=⟨hd,h.dat⟩ }
section steps
variable {ops:Array Oper} {Q:Exit→Act→World→Prop} {rest:List Oper} {o:Oper}
theorem Js4{τ:Type}{r:RT τ}{ok:Ok}{w:World}{xs:List τ}{A:Option Addr}{m c:Nat}(h:Jaw r ok w xs (.slice A m c)){i:Nat}{x:τ}(hx:xs[i]?=some x) :
  ∃b o,A=some ⟨b,o,none⟩∧i<m∧Qwz r ok w x (.pointer (some ⟨b,o+i*r.size,none⟩)):=by
 obtain⟨A',m',c',hv,hl,hc,hn⟩:=h;injection hv with e1 e2 e3
 subst e1; subst e2; subst e3;have hi:i<m:=by rw[←hl]; grind
 obtain⟨b,o,hA,hcs⟩:=hn (by omega);obtain⟨cs,hr,ha⟩:=hcs i x hx;exact⟨b,o,hA,hi,b,_,cs,rfl,hr,ha⟩
def okx(ok:Ok)(w w':World):Ok:=fun b o=>ok b o∨(w.heap.size≤b∧b<w'.heap.size)
def Q6k(L:List Nat)(w:World)(R:Value→World→Prop):Ending→World→Prop:=fun e w'=>∃v,e=.returned v∧R v w'∧Ki L w.heap.size w w'
abbrev Ret(w:World)(R:Value→World→Prop):Ending→World→Prop:=Q6k [] w R
def Runs(P:Program)(f:FuncId):Prop:=∃fn,P.funcs[f]?=some fn∧fn.name ≠ "runtime.NumGoroutine" ∧ fn.body.isNone=false
theorem Qpk{f:FuncId}(hf:Runs P f)(args:Array Value)(w:World):(callFunc f args).run P w=.ok (.enter f args) w:=by
 obtain⟨fn,h1,h2,h3⟩:=hf;have h2':(fn.name == "runtime.NumGoroutine")=false:=by simpa using h2
 obtain⟨c,hc⟩:∃c,fn.body=some c:=by
  cases hb:fn.body with
  | none=>rw[hb]at h3; cases h3
  | some c=>exact⟨c,rfl⟩
 simp_all [callFunc]
end steps
theorem Qpl{c:Code}{Q:Exit→Act→World→Prop}(I:Nat→Act→World→Prop)(m:Nat)(h0:I m a w)
  (round:∀m a w,I m a w→c.wp P (Exit.then (fun a' w'=>∃k,k<m∧I k a' w') Q) a w):(Code.loop c).wp P Q a w:=by
 intro b k cs
 have key:∀m a w,I m a w→∃e a' w',Q e a' w'∧Arrives P (lone (b.at a (.code c::.inLoop c::k)) cs w) b k cs e a' w':=by
  intro m
  induction m using Nat.strongRecOn with
  | _ m ih =>
   intro a w hI;obtain⟨e,a₁,w₁,hq,harr⟩:=round m a w hI b (.inLoop c::k) cs;cases e with
   | normal =>
    obtain⟨k',hlt,hI₁⟩:=hq;obtain⟨e₂,a₂,w₂,hq₂,harr₂⟩:=ih k' hlt a₁ w₁ hI₁;exact⟨e₂,a₂,w₂,hq₂,.of_steps (Steps.trans harr (.one step_inLoop)) harr₂⟩
   | exit id=>exact⟨_,a₁,w₁,hq,.pass (x:=.inLoop c) rfl (fun _ _=>.inl (by simp)) harr⟩
   | goto l=>exact⟨_,a₁,w₁,hq,.pass (x:=.inLoop c) rfl (fun _ _=>.inl (by simp)) harr⟩
   | ret=>exact⟨_,a₁,w₁,hq,.pass (x:=.inLoop c) rfl (fun _ _=>.inl (by simp)) harr⟩
   | panic ch=>exact⟨_,a₁,w₁,hq,.pass (x:=.inLoop c) rfl (fun _ _=>.inl (by simp)) harr⟩
   | outgrown=>exact⟨_,a₁,w₁,hq,.pass (x:=.inLoop c) rfl (fun _ _=>.inl (by simp)) harr⟩
 obtain⟨e,a',w',hq,harr⟩:=key m a w h0;exact⟨e,a',w',hq,.of_steps (.one step_loop) harr⟩
def Ja3:List Value→Nat→GL
 | [],_=>[]
 | v::vs,i=>(i,.v v)::Ja3 vs (i+1)
theorem Ja4{vs:List Value}{i:Nat}{p:Nat×AV}(h:p∈Ja3 vs i):∃j v,p=(i+j,.v v)∧vs[j]?=some v:=by
 induction vs generalizing i with
 | nil=>simp[Ja3]at h
 | cons v vs ih =>
  simp only[Ja3,QX]at h;rcases h with rfl | h
  ·exact⟨0,v,rfl,rfl⟩
  ·obtain⟨j,u,rfl,hu⟩:=ih h
   exact⟨j+1,u,by rw[Nat.add_assoc,XT 1 j],hu⟩
end
end Gd
namespace Gd
open Go Go.RowKit
section
variable {P:Program} {T:Tab} {β:Nat→Nat} {X:Cx} {G:GL} {D:List DF} {H:HL} {O:List TL} {a:Act} {w w':World}
end
def idx{α:Type}(xs:List α)(i:Int):Option α:=if 0≤i then xs[i.toNat]? else none
theorem El{α:Type}{xs:List α}{i:Int}{x:α}(h:idx xs i=some x):0≤i∧xs[i.toNat]?=some x:=by
 grind [idx]
def Nv(s:Str)(i:Int):Option Int:=(idx s i).map fun c=>(c.toNat:Int)
theorem Jy6{s:Str}{i:Int}{x:Int}(h:Nv s i=some x):0≤i∧∃c,s[i.toNat]?=some c∧x=(c.toNat:Int):=by
 obtain⟨c,hc,rfl⟩:=XE.1 h;exact⟨(El hc).1,c,(El hc).2,rfl⟩
theorem Y0{α β:Type}{o:Option α}{f:α→Option β}{r:β}(h:o.bind f=some r):∃x,o=some x∧f x=some r:=Option.bind_eq_some_iff.1 h
theorem J1p{τ:Type}{r:RT τ}{ok:Ok}{w:World}:isV (rSl r) ok w [] (.slice none 0 0):=Xv.2 ⟨none,0,0,rfl,rfl,QY _,fun h=>absurd h (by omega)⟩
theorem Qrm{τ:Type}{r:RT τ}{ok:Ok}{w:World}{xs:List τ}{v:Value}(h:isV (rSl r) ok w xs v):∃A c,v=.slice A xs.length c∧isV (rSl r) ok w xs (.slice A xs.length c):=by
 obtain⟨A,n,c,rfl,hl,r⟩:=Xv.1 h;grind
end Gd

/- More steps: elements, appends, new slices. -/
namespace Gd
open Go Go.RowKit
section
variable {P:Program} {T:Tab} {β:Nat→Nat} {X:Cx} {G:GL} {D:List DF} {H:HL} {O:List TL} {a:Act} {w w':World}
variable {ops:Array Oper} {Q:Exit→Act→World→Prop} {rest:List Oper} {o:Oper}
end
end Gd
namespace Gd
open Go Go.RowKit
def R1{τ:Type}(r:RT τ)(ok:Ok)(w:World)(y:τ):Value→World→Prop:=fun v w'=>isV r (okx ok w w') w' y v
end Gd
namespace Gd
open Go Go.RowKit
section
variable {P:Program} {T:Tab} {β:Nat→Nat} {X:Cx} {G:GL} {D:List DF} {H:HL} {O:List TL} {a:Act} {w w':World}
variable {ops:Array Oper} {Q:Exit→Act→World→Prop} {rest:List Oper} {o:Oper}
end
end Gd

/- New slices, appends, parts of slices and strings. -/
namespace Gd
open Go Go.RowKit Go.Lib
def Q1c{τ:Type}(r:RT τ)(ok:Ok)(w:World):List τ→List Value→Prop
 | [],[]=>True
 | x::xs,v::vs=>isV r ok w x v∧Q1c r ok w xs vs
 | _,_=>False
theorem Jhz{τ:Type}{r:RT τ}{ok:Ok}{w:World}{x:τ}{cs:List Value}(h:r.rep ok w x cs):Q4 (r.val cs)=cs:=by
 unfold RT.val;cases ha:r.agg with
 | true=>rfl
 | false =>
  have h1:=r.len h;rw[r.one ha]at h1
  match cs,h1 with
  | [c],_ =>
   have:=r.flat h c (by simp);cases c<;>first | rfl | grind [Value.oneCell']
theorem Nw{τ:Type}{r:RT τ}{ok:Ok}{w:World}{x:τ}{v:Value}(h:isV r ok w x v):r.rep ok w x (Q4 v):=by
 obtain⟨cs,hr,rfl⟩:=h;rw[Jhz hr]; exact hr
theorem Ja5{τ:Type}{r:RT τ}{ok:Ok}{w:World}:∀{xs:List τ} {vs:List Value},Q1c r ok w xs vs→(vs.flatMap Q4).length=xs.length*r.size∧vs.length=xs.length
 | [],[],_=>by simp
 | x::xs,v::vs,h=>by
  have h1:=r.len (Nw h.1);have h2:=Ja5 h.2;grind
theorem Jkq{τ:Type}{r:RT τ}{ok:Ok}{w:World}:∀{xs:List τ} {vs:List Value},Q1c r ok w xs vs→∀(i:Nat) (x:τ),xs[i]?=some x →
  ∃cs,r.rep ok w x cs∧∀(j:Nat) u,cs[j]?=some u→(vs.flatMap Q4)[i*r.size+j]?=some u
 | [],[],_,i,x,hx=>by simp at hx
 | y::ys,v::vs,h,i,x,hx=>by
  have h1:=r.len (Nw h.1);cases i with
  | zero =>
   simp at hx; subst hx;refine⟨Q4 v,Nw h.1,fun j u hu=>?_⟩;have hj:=(List.getElem?_eq_some_iff.1 hu).1;grind
  | succ i =>
   simp at hx;obtain⟨cs,hr,hc⟩:=Jkq h.2 i x hx;grind
section
variable {P:Program} {T:Tab} {β:Nat→Nat} {X:Cx} {G:GL} {D:List DF} {H:HL} {O:List TL} {a:Act} {w w':World}
variable {ops:Array Oper} {Q:Exit→Act→World→Prop} {rest:List Oper}
theorem Sb.fresh(h:Sb β X G D H O a w){τ:Type}{r:RT τ}{xs:List τ}{cs:List Value}{tail:List Value}(e:TypeId)(c:Nat)
  (hc:∀(i:Nat) (x:τ),xs[i]?=some x→∃ds,r.rep (Jr X.ok X.w.heap.size β H O w) w x ds∧∀(j:Nat) u,ds[j]?=some u→cs[i*r.size+j]?=some u)
  (hl:xs.length≤c) (w':World) (hb:Below w.heap.size w w') {fr:Nat×Nat} (hw':w'.heap[w.heap.size]?=some (.cells (cs++tail).toArray e fr)) :
  isV (rSl r) (Jr X.ok X.w.heap.size β H O w') w' xs (.slice (some ⟨w.heap.size,0,none⟩) xs.length c):=by
 have hb':Evo (Jr X.ok X.w.heap.size β H O w) w w':=(Evo.of_below hb).mono fun _ _ hk=>hk.2.1;have hlt:w.heap.size<w'.heap.size:=Uc hw';refine Xv.2 ⟨_,_,_,rfl,rfl,hl,fun _=>⟨_,0,rfl,fun i x hx=>?_⟩⟩;obtain⟨ds,hr,hd⟩:=hc i x hx;refine⟨ds,r.weak (r.evo hr hb') (Qrl hb.size),fun j u hu=>⟨⟨.inr h.bel.size,hlt,fun p hp=>?_,fun t ht hcv=>?_⟩,?_⟩⟩
 ·exact Nat.ne_of_lt (h.hlt hp)
 ·exact Nat.lt_irrefl _ (h.olt ht (t.cb hcv))
 ·have:=hd j u hu
  have hj:=(List.getElem?_eq_some_iff.1 this).1;simp only[World.cell?,hw',QW,Option.isSome_none,QG,if_false];rw[List.getElem?_toArray,JC hj];exact this
def Qi2(size:Nat):Nat→Option (Nat×Nat):=fun i=>some (i*size,size)
def Kj(z:List Value)(m:Nat):List Value:=(List.range m).map fun j=>z.getD (j % z.length) undef
theorem Quz(hT:Jg P T)(h:Sb β X G D H O a w){t:TypeId}{len:Nat}{parts:List (Nat×Operand)}{d:Nat}{ps:String}{af:Array Edge}{ty:TypeId}{gd:Option (Nat×Bool)}
  (hg:Nu ops G ⟨some d,.buildSlice t len ⟨parts⟩,ty,ps,af,gd⟩=some true) (hlt:okD X d=true)
  {τ:Type} {r:RT τ} {xs:List τ} {vs:List Value} {pvs:List (Nat×Value)} (hpv:evParts G parts=some pvs)
  {e:TypeId} {te ee:TE} (ht:Qo T t=some te) (htd:te.d=.slice e) (he:Qo T e=some ee) (hs:ee.size=r.size) (hxl:xs.length=len)
  (hsm:Nat.ble (len*ee.size) 16777216=true) (hps:Nat.ble 1 (len*ee.size)=true) (hz:Nat.beq (Q4 ee.z).length ee.size=true)
  (hfill:Qbt (Qi2 ee.size) (Kj (Q4 ee.z) (len*ee.size)) pvs=some (vs.flatMap Q4))
  (hv:Q1c r (Jr X.ok X.w.heap.size β H O w) w xs vs)
  (hk:∀A c a' w',isV (rSl r) (Jr X.ok X.w.heap.size β H O w') w' xs (.slice A xs.length c)→Sb β X (Qfp G d (.v (.slice A xs.length c))) D H O a' w'→wpList P ops Q rest a' w') :
  wpList P ops Q (⟨some d,.buildSlice t len ⟨parts⟩,ty,ps,af,gd⟩::rest) a w:=by
 have hrun:(execOp a.eval ⟨some d,.buildSlice t len ⟨parts⟩,ty,ps,af,gd⟩).run P w=.ok (.value (.slice (some ⟨w.heap.size,0,none⟩) xs.length len)) (w.alloc (.cells (vs.flatMap Q4).toArray e)):=by
  have hev:=Qnw h hpv;have hm:(Array.mk parts).map (fun(x:Nat×Operand)=>(x.1,a.eval x.2))=⟨pvs⟩:=by rw[←hev]; simp
  have hun:(underlying t).run P w=.ok (.slice e) w:=by rw[J7 hT w ht,htd]
  have h16:¬ len*ee.size>16777216:=by have:=QV hsm; omega
  have hzl:=Nat.eq_of_beq_eq_true hz;have hf:Instr.fill (fun i=>some (i*ee.size,ee.size)) (Kj (Q4 ee.z) (len*ee.size)).toArray pvs=some (vs.flatMap Q4).toArray:=Qd0 _ hfill
  have hzz:(Array.range (len*ee.size)).map (fun x=>ee.z.cells[x % ee.z.cells.size]!)=(Kj (Q4 ee.z) (len*ee.size)).toArray:=by
   rw[Uk];grind [Kj,Array.ext,Nat.eq_zero_or_pos,Uk,Nat.mod_lt]
  unfold execOp;simp only[Instr.buildSlice,Sem.run_bind,hun,Yn hT w he,Result.andThen_ok,hm];have h0:¬ len*ee.size=0:=by have:=QV hps; omega
  have h00:len≠0:=fun e=>h0 (by rw[e,ZQ]);have h01:ee.size≠0:=fun e=>h0 (by rw[e,Nat.mul_zero]);simp[h16,h00,h01,Ze hT w he,hzz,hf,newRow,hxl];grind
 refine J5 (Wm h hg) (Vi hrun ?_);have hb:Below w.heap.size w (w.alloc (.cells (vs.flatMap Q4).toArray e)):=(Below.refl _ _).alloc (QY _) _;refine hk _ len _ _ ?_ ((h.below hb).put hlt (.v _));exact h.fresh (tail:=[]) e len (Jkq hv) (by omega) _ hb (by rw[QH]; exact heap_alloc_new w _)
def app{α:Type}(bytes:Nat)(xs ys:List α):Option (List α):=if(xs.length+ys.length)*bytes≤140737488355328 then some (xs++ys)else none
theorem Qrn{α:Type}{bytes:Nat}{xs ys zs:List α}(h:app bytes xs ys=some zs):(xs.length+ys.length)*bytes≤140737488355328∧zs=xs++ys:=by
 grind [app,Option.some.inj]
theorem Nx:maxLen=9223372036854775807:=rfl
theorem Qro(t ty e:TypeId)(i:TypeInfo)(ht:P.underlying t=some (.slice e))(hi:P.info? e=some i)
  (g sLen sCap:Nat) (cur:Array Value) (fz:Nat×Nat) (hg:w.heap[g]?=some (.cells cur e fz)) (hfz:Q6g fz cur.size)
  (a:Addr) (m c:Nat) (news:List Value) (hl:news.length=m*i.size) (hnews:∀j u,news[j]?=some u→w.cell? (a.add j)=some u) (h1:∀u∈news,u.oneCell'=true)
  (hroom:sLen+m≤sCap) (hfit:sLen*i.size+news.length≤cur.size) :
  (Builtin.append_ #[t,t] ty #[.slice (some ⟨g,0,none⟩) sLen sCap,.slice (some a) m c]).run P w =
   .ok (.slice (some ⟨g,0,none⟩) (sLen+m) sCap) (w.setRow g (cur.toList.take (sLen*i.size)++news++cur.toList.drop (sLen*i.size+news.length)).toArray):=by
 have hf:=run_firstCells_some (P:=P) w i.size m a m c news hl hnews;have hst:=Kh P g (sLen*i.size) e fz news 0 cur w hg hfz (by grind) h1;simp only[XQ]at hst;simp[Builtin.append_,run_underlying ht,Go.sizeOf,typeInfo,hi,Builtin.lenOf,hroom,hf,Addr.add_lit,hst]
theorem Qi3(t u ty e:TypeId)(i:TypeInfo)(ht:P.underlying t=some (.slice e))(hu:P.underlying u=some .string)(hi:P.info? e=some i)(hs1:i.size=1)
  (g sLen sCap:Nat) (cur:Array Value) (fz:Nat×Nat) (hg:w.heap[g]?=some (.cells cur e fz)) (hfz:Q6g fz cur.size) (s:ByteArray)
  (hroom:sLen+s.size≤sCap) (hfit:sLen+s.size≤cur.size) :
  (Builtin.append_ #[t,u] ty #[.slice (some ⟨g,0,none⟩) sLen sCap,.string s]).run P w =
   .ok (.slice (some ⟨g,0,none⟩) (sLen+s.size) sCap) (w.setRow g (cur.toList.take sLen++strCells s++cur.toList.drop (sLen+s.size)).toArray):=by
 have hf:=run_firstCells_string (P:=P) w 1 s;have hst:=Kh P g sLen e fz (strCells s) 0 cur w hg hfz (by simpa[strCells_length]using hfit) (strCells_oneCell s);simp only[XQ,strCells_length]at hst;simp[Builtin.append_,run_underlying ht,run_underlying hu,Go.sizeOf,typeInfo,hi,hs1,Builtin.lenOf,hroom,hf,Addr.add_lit,hst]
theorem Qi4{base:Nat}{t u ty e:TypeId}{i:TypeInfo}(ht:P.underlying t=some (.slice e))(hu:P.underlying u=some .string)(hi:P.info? e=some i)(hz:i.zero=some (.int .u8 0))
  (hsize:i.size=1) (hby:i.bytes=1) {v:Value} {n:Nat} {xs:List Value} (hown:w.ownsRowS base e 1 v n xs) (s:ByteArray) (hbytes:n+s.size≤140737488355328) (hbase:base≤w.heap.size) :
  ∃v' w',(Builtin.append_ #[t,u] ty #[v,.string s]).run P w=.ok v' w'∧w'.ownsRowS base e 1 v' (n+s.size) (xs++strCells s)∧w.grownBy w' v.ownBlock ∧
   ((v'.ownBlock=v.ownBlock)∨(v'.ownBlock=some w.heap.size∧Below w.heap.size w w')):=by
 have h63:n+s.size≤maxLen:=by rw[Nx]; omega
 have hxl:xs.length=n:=by simpa using hown.1
 have hlen:(xs++strCells s).length=(n+s.size)*1:=by rw[List.length_append,hxl,strCells_length,ZY]
 have grown:∀(old:Nat),old<n+s.size →
   (w.drew.alloc (.cells (xs.toArray++(strCells s).toArray++Builtin.zeroCells (Value.int .u8 0).cells (grownCap w (n+s.size) old e - (n+s.size))) e)).ownsRowS base e 1
    (.slice (some ⟨w.heap.size,0,none⟩) (n+s.size) (grownCap w (n+s.size) old e)) (n+s.size) (xs++strCells s) ∧
   Below w.heap.size w (w.drew.alloc (.cells (xs.toArray++(strCells s).toArray++Builtin.zeroCells (Value.int .u8 0).cells (grownCap w (n+s.size) old e - (n+s.size))) e)):=by
  intro old ho;have hge:=grownCap_ge w (n+s.size) old e;have hcm:grownCap w (n+s.size) old e≤maxLen:=grownCap_le_maxLen w (n+s.size) old e h63;refine⟨⟨hlen,.inr ⟨w.heap.size,_,_,(0,0),rfl,hbase,heap_alloc_new w.drew _,.inl rfl,hge,hcm,?_,?_⟩⟩,((Below.refl _ _).drew.alloc (QY _) _)⟩
  ·simp_all [Nat.le_of_eq,Eq.symm,ZU,JD,size_zeroCells,Value.cells]
  grind
 rcases hown.2 with⟨rfl,rfl⟩ | ⟨g,cap,cur,fz,rfl,hbg,hg,hfz,hnc,hcm,hcs,htake⟩
 ·have hx0:xs=[]:=QF hxl
  subst hx0
  by_cases hs0:s.size=0
  ·refine⟨.slice none 0 0,w,?_,⟨hlen,.inl ⟨rfl,by omega⟩⟩,⟨rfl,rfl,rfl,QY _,fun _ _ _=>rfl⟩,.inl rfl⟩
   simp[Builtin.append_,run_underlying ht,run_underlying hu,Go.sizeOf,typeInfo,hi,Builtin.lenOf,hs0,Builtin.firstCells]
  ·have hr:=run_append_nil_string (P:=P) w t u ty e i (.int .u8 0) ht hu hi hz s (by omega) (by omega) (by rw[hby]; omega)
   have e0:s.data.map (fun b=>Value.int .u8 (b.toNat:Int))=(strCells s).toArray:=by apply Array.ext'; simp[strCells]
   rw[e0]at hr;obtain⟨g1,g2⟩:=grown 0 (by omega);simp only[QW,QE,Array.empty_append]at g1 g2 ⊢;exact⟨_,_,hr,g1,⟨g2.os,g2.tape,g2.output,g2.size,fun b hb _=>g2.block b hb⟩,.inr ⟨rfl,g2⟩⟩
 ·by_cases hroom:n+s.size≤cap
  ·have hcs':cap≤cur.size:=by simpa using hcs
   have hr:=Qi3 (P:=P) (w:=w) t u ty e i ht hu hi hsize g n cap cur fz hg hfz s hroom (by omega)
   have hsz:(cur.toList.take n++strCells s++cur.toList.drop (n+s.size)).toArray.size=cur.size:=by
    grind
   refine⟨_,_,hr,⟨hlen,.inr ⟨g,cap,_,fz,rfl,hbg,setRow_heap w g cur _ e _ hg,by rw[hsz]; exact hfz,hroom,hcm,by rw[hsz]; exact hcs,?_⟩⟩,⟨rfl,rfl,rfl,by simp,fun b _ hb=>setRow_other w g b _ (fun e=>hb (by simp[Value.ownBlock,e]))⟩,.inl rfl⟩;grind
  ·have holds:∀j u,xs[j]?=some u→w.cell? ((⟨g,0,none⟩:Addr).add j)=some u:=hown.cells (g:=g) rfl
   have hr:=run_append_grow_string (P:=P) w t u ty e i (.int .u8 0) ht hu hi hz ⟨g,0,none⟩ n cap xs (by rw[hsize]; simpa using hxl) holds s (by omega) (by omega) (by rw[hby]; exact growslice_fits (by omega) (by omega));obtain⟨g1,g2⟩:=grown cap (by omega);exact⟨_,_,hr,g1,⟨g2.os,g2.tape,g2.output,g2.size,fun b hb _=>g2.block b hb⟩,.inr ⟨rfl,g2⟩⟩
theorem Qnx(hT:Jg P T){base:Nat}{t ty e:TypeId}{te ee:TE}(ht:Qo T t=some te)(htd:te.d=.slice e)(he:Qo T e=some ee)
  (hz:(Q4 ee.z).length=ee.size) (hsz:0<ee.size) (hby:0<ee.bytes) {v:Value} {m:Nat} {xs:List Value} (hown:w.ownsRowS base e ee.size v m xs) (hbase:base≤w.heap.size)
  {A:Option Addr} {k c:Nat} {news:List Value} (hl:news.length=k*ee.size) (hA:A=none→k=0) (hnews:∀ad,A=some ad→∀j u,news[j]?=some u→w.cell? (ad.add j)=some u)
  (h1:∀u∈news,u.oneCell'=true) (hbytes:(m+k)*ee.bytes≤140737488355328) :
  ∃v' w',(Builtin.append_ ⟨[t,t]⟩ ty ⟨[v,.slice A k c]⟩).run P w=.ok v' w'∧w'.ownsRowS base e ee.size v' (m+k) (xs++news)∧w.grownBy w' v.ownBlock ∧
   ((v'.ownBlock=v.ownBlock)∨(v'.ownBlock=some w.heap.size∧Below w.heap.size w w')):=by
 have hu:P.underlying t=some (.slice e):=by rw[(J0 hT ht).2,htd]
 obtain⟨i,hi,hz',hs',hb'⟩:=Ek hT he;have hzs:ee.z.cells.size=ee.size:=by rw[←hz,Uk]; simp
 have hmk:m+k≤140737488355328:=Nat.le_trans (XU _ hby) hbytes;rw[←hs']at hl hown hsz hzs ⊢;rw[←hb']at hbytes;have hlen:(xs++news).length=(m+k)*i.size:=by rw[List.length_append,hown.1,hl,Nat.add_mul]
 cases A with
 | none =>
  have hk:=hA rfl;subst hk;have hn:news=[]:=QF (by simpa using hl);subst hn;refine⟨v,w,?_,by grind,⟨rfl,rfl,rfl,QY _,fun _ _ _=>rfl⟩,.inl rfl⟩;rcases hown.2 with⟨rfl,rfl⟩ | ⟨g,cap,cur,fz,rfl,_,_,_,hnc,_⟩
  ·simp[Builtin.append_,run_underlying hu,Go.sizeOf,typeInfo,hi,Builtin.lenOf,Builtin.firstCells]
  ·simp[Builtin.append_,run_underlying hu,Go.sizeOf,typeInfo,hi,Builtin.lenOf,Builtin.firstCells,hnc,storeCells]
 | some ad =>
  have hn:=hnews ad rfl
  have grown:∀old:Nat,old<m+k →
    (w.drew.alloc (.cells (xs.toArray++news.toArray++Builtin.zeroCells ee.z.cells (grownCap w (m+k) old e - (m+k))) e)).ownsRowS base e i.size
     (.slice (some ⟨w.heap.size,0,none⟩) (m+k) (grownCap w (m+k) old e)) (m+k) (xs++news) ∧
    Below w.heap.size w (w.drew.alloc (.cells (xs.toArray++news.toArray++Builtin.zeroCells ee.z.cells (grownCap w (m+k) old e - (m+k))) e)):=by
   intro old ho;have hge:=grownCap_ge w (m+k) old e;have hcm:grownCap w (m+k) old e≤maxLen:=grownCap_le_maxLen w (m+k) old e (by rw[Nx]; omega);refine⟨⟨hlen,.inr ⟨w.heap.size,_,_,(0,0),rfl,hbase,heap_alloc_new w.drew _,.inl rfl,hge,hcm,?_,?_⟩⟩,((Below.refl _ _).drew.alloc (QY _) _)⟩
   ·refine Nat.le_of_eq (Eq.symm ?_)
    simp only[ZU,JD,size_zeroCells,hzs,hown.1,hl,←Nat.add_mul];congr 1; omega
   grind
  rcases hown.2 with⟨rfl,rfl⟩ | ⟨g,cap,cur,fz,rfl,hbg,hg,hfz,hnc,hcm,hcs,htake⟩
  ·have hx:xs=[]:=QF (by grind)
   subst hx
   by_cases hk0:k=0
   ·subst hk0
    have hn0:news=[]:=QF (by simpa using hl);subst hn0;refine⟨.slice none 0 0,w,?_,World.ownsRowS_nil w base e i.size,⟨rfl,rfl,rfl,QY _,fun _ _ _=>rfl⟩,.inl rfl⟩;simp[Builtin.append_,run_underlying hu,Go.sizeOf,typeInfo,hi,Builtin.lenOf,Builtin.firstCells,loadCells,loadCellsFrom]
   ·have hr:=run_append_nil (P:=P) w t ty e i ee.z hu hi hz' ad k c news hl hn (by omega) (by omega) (by have hb:=hbytes; grind)
    obtain⟨g1,g2⟩:=grown 0 (by omega);simp only[QW,QE,Array.empty_append]at g1 g2 ⊢;exact⟨_,_,hr,g1,⟨g2.os,g2.tape,g2.output,g2.size,fun b hb _=>g2.block b hb⟩,.inr ⟨rfl,g2⟩⟩
  ·by_cases hroom:m+k≤cap
   ·have hfit:m*i.size+news.length≤cur.size:=by rw[hl,←Nat.add_mul]; exact Nat.le_trans (QM _ hroom) hcs
    have hr:=Qro (P:=P) (w:=w) t ty e i hu hi g m cap cur fz hg hfz ad k c news hl hn h1 hroom hfit
    have hszr:(cur.toList.take (m*i.size)++news++cur.toList.drop (m*i.size+news.length)).toArray.size=cur.size:=by
     grind
    refine⟨_,_,hr,⟨hlen,.inr ⟨g,cap,_,fz,rfl,hbg,setRow_heap w g cur _ e _ hg,by rw[hszr]; exact hfz,hroom,hcm,by rw[hszr]; exact hcs,?_⟩⟩,⟨rfl,rfl,rfl,by simp,fun b _ hb=>setRow_other w g b _ (fun e=>hb (by simp[Value.ownBlock,e]))⟩,.inl rfl⟩;rw[htake,←hlen];grind
   ·have holds:∀j u,xs[j]?=some u→w.cell? ((⟨g,0,none⟩:Addr).add j)=some u:=hown.cells (g:=g) rfl
    have hr:=run_append_grow (P:=P) w t ty e i ee.z hu hi hz' ⟨g,0,none⟩ m cap xs hown.1 holds ad k c news hl hn (by omega) (by omega) (growslice_fits (by omega) hbytes);obtain⟨g1,g2⟩:=grown cap (by omega);exact⟨_,_,hr,g1,⟨g2.os,g2.tape,g2.output,g2.size,fun b hb _=>g2.block b hb⟩,.inr ⟨rfl,g2⟩⟩
end
end Gd

/- The step of append; parts of slices and strings; conversions. -/
namespace Gd
open Go Go.RowKit
section
variable {P:Program} {T:Tab} {β:Nat→Nat} {X:Cx} {G:GL} {D:List DF} {H:HL} {O:List TL} {a:Act} {w w':World}
variable {ops:Array Oper} {Q:Exit→Act→World→Prop} {rest:List Oper}
theorem Ja6{τ:Type}{r:RT τ}{ok:Ok}{w:World}{b o:Nat}:∀(xs:List τ) (k:Nat),
  (∀i x,xs[i]?=some x→∃cs,r.rep ok w x cs∧Ox ok w b (o+(k+i)*r.size) cs) →
  ∃cs:List Value,cs.length=xs.length*r.size∧(∀c∈cs,c.oneCell'=true)∧(∀(j:Nat) u,cs[j]?=some u→ok b (o+k*r.size+j)∧w.cell? ⟨b,o+k*r.size+j,none⟩=some u) ∧
   ∀i x,xs[i]?=some x→∃ds,r.rep ok w x ds∧∀(j:Nat) u,ds[j]?=some u→cs[i*r.size+j]?=some u
 | [],k,_=>⟨[],by simp,by simp,by simp,by simp⟩
 | x::xs,k,h=>by
  obtain⟨d0,hr0,hc0⟩:=h 0 x rfl
  obtain⟨cs,hl,h1,hc,hi⟩:=Ja6 xs (k+1) (fun i y hy=>by
   have:=h (i+1) y (by simpa using hy);rw[show k+(i+1)=k+1+i from by omega]at this
   exact this)
  have hl0:=r.len hr0;refine⟨d0++cs,by grind,?_,?_,?_⟩
  ·intro c hcm
   rcases QZ.1 hcm with hcm | hcm
   ·exact r.flat hr0 c hcm
   ·exact h1 c hcm
  ·intro j u hu
   by_cases hj:j<d0.length
   ·rw[JC hj]at hu
    have:=hc0 j u hu;grind
   grind
  ·intro i y hy
   cases i with
   | zero =>
    grind
   | succ i =>
    obtain⟨ds,hr,hd⟩:=hi i y (by simpa using hy);refine⟨ds,hr,fun j u hu=>?_⟩;rw[JF (by rw[hl0,Nat.add_mul]; omega),hl0];grind
theorem Qbu{τ:Type}{r:RT τ}{ok:Ok}{xs:List τ}{A:Option Addr}{m c:Nat}(h:Jaw r ok w xs (.slice A m c)) :
  ∃cs:List Value,cs.length=m*r.size∧xs.length=m∧m≤c∧(A=none→m=0)∧(∀c∈cs,c.oneCell'=true) ∧
   (0<m→∃b o,A=some ⟨b,o,none⟩∧∀(j:Nat) u,cs[j]?=some u→ok b (o+j)∧w.cell? ⟨b,o+j,none⟩=some u) ∧
   ∀i x,xs[i]?=some x→∃ds,r.rep ok w x ds∧∀(j:Nat) u,ds[j]?=some u→cs[i*r.size+j]?=some u:=by
 obtain⟨A',m',c',hv,hl,hc,hn⟩:=h;injection hv with e1 e2 e3
 subst e1; subst e2; subst e3;rcases Nat.eq_zero_or_pos m with h0 | h0
 ·have hx:xs=[]:=QF (by omega)
  simp_all
 ·obtain⟨b,o,rfl,hx⟩:=hn h0
  obtain⟨cs,hcl,h1,hcc,hi⟩:=Ja6 (r:=r) (ok:=ok) (w:=w) (b:=b) (o:=o) xs 0 (fun i x hx'=>by rw[QW]; exact hx i x hx');grind
def Ja7{τ:Type}(r:RT τ)(ok:Ok)(w:World)(xs:List τ)(A:Option Addr)(m c:Nat):Prop :=
 ∃cs:List Value,cs.length=m*r.size∧xs.length=m∧m≤c∧(A=none→m=0)∧(∀c∈cs,c.oneCell'=true) ∧
  (0<m→∃b o,A=some ⟨b,o,none⟩∧∀(j:Nat) u,cs[j]?=some u→w.cell? ⟨b,o+j,none⟩=some u) ∧
  ∀i x,xs[i]?=some x→∃ds,r.rep ok w x ds∧∀(j:Nat) u,ds[j]?=some u→cs[i*r.size+j]?=some u
theorem Jkr{τ:Type}{r:RT τ}{ok:Ok}{xs:List τ}{A:Option Addr}{m c:Nat}(h:isV (rSl r) ok w xs (.slice A m c)):Ja7 r ok w xs A m c:=by
 obtain⟨cs,h1,h2,h3,h4,h5,h6,h7⟩:=Qbu (Xv.1 h);exact⟨cs,h1,h2,h3,h4,h5,fun hm=>let⟨b,o,e,hc⟩:=h6 hm; ⟨b,o,e,fun j u hu=>(hc j u hu).2⟩,h7⟩
theorem Ja7.weak{τ:Type}{r:RT τ}{ok ok':Ok}{xs:List τ}{A:Option Addr}{m c:Nat}(h:Ja7 r ok w xs A m c)(hk:∀b o,ok b o→ok' b o):Ja7 r ok' w xs A m c:=by
 obtain⟨cs,h1,h2,h3,h4,h5,h6,h7⟩:=h;exact⟨cs,h1,h2,h3,h4,h5,h6,fun i x hx=>let⟨ds,q1,q2⟩:=h7 i x hx; ⟨ds,r.weak q1 hk,q2⟩⟩
theorem Ie(A:Option Addr)(n n' c c':Nat):(Value.slice A n c).ownBlock=(Value.slice A n' c').ownBlock:=by cases A<;>rfl
theorem Bl(b o j:Nat):(⟨b,o,none⟩:Addr).add j=⟨b,o+j,none⟩:=Addr.add_lit b o j
theorem Ja8(hT:Jg P T)(h:Sb β X G D H O a w)(kx ky:Nat)(O1 O2:List TL){t:TypeId}{s x:Operand}{d:Nat}{ps:String}{af:Array Edge}{ty:TypeId}{gd:Option (Nat×Bool)}
  (hg:Nu ops G ⟨some d,.call ⟨.builtin .append,⟨[s,x]⟩,⟨[t,t]⟩⟩,ty,ps,af,gd⟩=some true) (hlt:okD X d=true)
  {τ:Type} {r:RT τ} {xs ys zs:List τ} {A:Option Addr} {A2:Option Addr} {m c m2 c2:Nat} {e:TypeId} {te ee:TE} (ht:Qo T t=some te) (htd:te.d=.slice e) (he:Qo T e=some ee) (hs:ee.size=r.size)
  (hz:Nat.beq (Q4 ee.z).length ee.size=true) (hsz:Nat.ble 1 ee.size=true) (hby:Nat.ble 1 ee.bytes=true)
  (hO:O=O1++tl (.slice A m c) e ee.size::O2) (hs1:gv G s=some (.v (.slice A m c))) (hx1:gv G x=some (.v (.slice A2 m2 c2)))
  (hDx:D[kx]?=some (DF.v (rSl r) xs (.slice A m c))) (hDy:isV (rSl r) (Jr X.ok X.w.heap.size β H O w) w ys (.slice A2 m2 c2)) (happ:app ee.bytes xs ys=some zs)
  (hk:∀A' c' a' w',isV (rSl r) (Jr X.ok X.w.heap.size β H (O1++tl (.slice A' zs.length c') e ee.size::O2) w') w' zs (.slice A' zs.length c') →
   Sb β X (Qfp G d (.v (.slice A' zs.length c'))) D H (O1++tl (.slice A' zs.length c') e ee.size::O2) a' w'→wpList P ops Q rest a' w') :
  wpList P ops Q (⟨some d,.call ⟨.builtin .append,⟨[s,x]⟩,⟨[t,t]⟩⟩,ty,ps,af,gd⟩::rest) a w:=by
 subst hO;obtain⟨hbytes,rfl⟩:=Qrn happ;have hmem:(tl (.slice A m c) e ee.size:TL)∈O1++tl (.slice A m c) e ee.size::O2:=by simp
 obtain⟨xs0,hown⟩:=(h.own _ hmem).1;have hmine:∀g,(Value.slice A m c).ownBlock=some g→X.mine g:=(h.own _ hmem).2;have hvx:=Xv.1 (h.d kx hDx);obtain⟨csx,hcx1,hxl,hmc,hA,hcx2,hcx3,hcx4⟩:=Qbu hvx;obtain⟨csy,hcy1,hyl,hmc2,hA2,hcy2,hcy3,hcy4⟩:=Qbu (Xv.1 hDy);have hzl:=Nat.eq_of_beq_eq_true hz;have hsz':0<ee.size:=QV hsz;have hby':0<ee.bytes:=QV hby
 have hnews:∀ad,A2=some ad→∀j u,csy[j]?=some u→w.cell? (ad.add j)=some u:=by
  intro ad had j u hu;have hj:=(List.getElem?_eq_some_iff.1 hu).1
  have hm2:0<m2:=by
   grind
  grind [Bl]
 simp only[Gj]at hown;obtain⟨v',w1,hrun,hown',hgrow,hblk⟩:=Qnx (P:=P) (w:=w) (ty:=ty) hT ht htd he hzl hsz' hby' hown (QN _) (k:=m2) (c:=c2) (A:=A2) (news:=csy) (by rw[hs]; exact hcy1) hA2 hnews hcy2 (by rw[←hxl,←hyl]; exact hbytes)
 have hrun':(execOp a.eval ⟨some d,.call ⟨.builtin .append,⟨[s,x]⟩,⟨[t,t]⟩⟩,ty,ps,af,gd⟩).run P w=.ok (.value v') w1:=by
  unfold execOp;have hm:(Array.mk [s,x]).map a.eval=⟨[.slice A m c,.slice A2 m2 c2]⟩:=by simp[h.ev hs1,h.ev hx1,R4]
  simp_all [resolve,invoke,builtin]
 have hxs0:xs0.length=m*ee.size:=hown.1
 have hform:∃A' c',v'=.slice A' (m+m2) c'∧m+m2≤c'∧(0<m+m2→∃g,A'=some ⟨g,0,none⟩):=by
  rcases hown'.2 with⟨rfl,h0⟩ | ⟨g,cap,cur,fz,rfl,_,_,_,hle,_⟩
  ·grind
  grind
 obtain⟨A',c',rfl,hc',hA'⟩:=hform;have hlen:(xs++ys).length=m+m2:=by rw[List.length_append,hxl,hyl]
 have hrow:∀g,(Value.slice A' (m+m2) c').ownBlock=some g→∀(j:Nat) u,(xs0++csy)[j]?=some u→w1.cell? ⟨g,j,none⟩=some u:=by
  intro g hg j u hu;have:=hown'.cells hg j u hu
  rwa[Bl,QW]at this
 have hrow0:∀g,(Value.slice A m c).ownBlock=some g→∀(j:Nat) u,xs0[j]?=some u→w.cell? ⟨g,j,none⟩=some u:=by
  intro g hg j u hu;have:=hown.cells hg j u hu
  rwa[Bl,QW]at this
 have hlt1:=hown'.lt;have hlt0:=hown.lt
 have hmine1:∀g,(Value.slice A' (m+m2) c').ownBlock=some g→X.mine g:=by
  intro g hg;rcases hblk with he1 | ⟨he1,_⟩
  ·grind
  ·rw[he1]at hg; injection hg with hg; subst hg; exact .inl h.bel.size
 have hevo:Evo (Jr X.ok X.w.heap.size β H (O1++tl (.slice A m c) e ee.size::O2) w) w w1:=by
  refine⟨hgrow.size,fun b o hk=>?_,fun b es cl hk hmp=>?_⟩
  rotate_left
  ·have hbg:some b≠(Value.slice A m c).ownBlock:=by
    intro he;rcases hown.2 with⟨hv0,_⟩ | ⟨g,cap,cur,fz,hv0,_,hh,_⟩
    ·rw[hv0]at he; simp[Value.ownBlock]at he
    grind [Value.ownBlock,Option.some.injEq]
   rw[hgrow.block b hk.2.1 hbg]; exact hmp
  obtain⟨_,h2,_,h4⟩:=hk
  by_cases hbg:some b=(Value.slice A m c).ownBlock
  ·rcases hblk with he1 | ⟨he1,hbel⟩
   ·have hnc:=h4 _ hmem
    simp only[tl,Gj,not_and,Nat.not_le]at hnc;have ho:o<m*ee.size:=hnc hbg.symm;have hu:∃u,xs0[o]?=some u:=⟨xs0[o]'(by omega),List.getElem?_eq_getElem (by omega)⟩
    grind
   ·exact hbel.cell (p:=⟨b,o,none⟩) h2
  ·exact World.cell?_of_block (w:=w) (hgrow.block b h2 hbg)
 have hok:∀b o,Jr X.ok X.w.heap.size β H (O1++tl (.slice A m c) e ee.size::O2) w b o→Jr X.ok X.w.heap.size β H (O1++tl (.slice A' (xs++ys).length c') e ee.size::O2) w1 b o:=by
  rintro b o ⟨h1,h2,h3,h4⟩;refine⟨h1,QI h2 hgrow.size,h3,fun t ht hcv=>?_⟩;rcases QZ.1 ht with ht | ht
  ·grind
  ·rcases QX.1 ht with rfl | ht
   ·obtain⟨c1,c2⟩:=hcv
    simp only[Gj,hlen]at c1 c2;rcases hblk with he1 | ⟨he1,_⟩
    ·have hnc:=h4 _ hmem
     simp only[tl,Gj,not_and,Nat.not_le]at hnc;have:=hnc (by rw[←he1]; exact c1);rw[Nat.add_mul]at c2;omega
    grind
   grind
 have hothers:∀t∈O1++O2,∀g,t.blks g→some g≠(Value.slice A m c).ownBlock∧g<w.heap.size:=by
  intro t ht g hg;refine⟨fun e1=>?_,h.olt (by rcases QZ.1 ht with ht | ht<;>simp[ht]) hg⟩;have hp:=QA.1 h.dOO;rcases QZ.1 ht with ht | ht
  ·exact hp.2.2 t ht _ (.head _) g hg e1.symm
  ·have hp2:=List.pairwise_cons.1 hp.2.1
   exact hp2.1 t ht g e1.symm hg
 have hSb:Sb β X G D H (O1++tl (.slice A' (xs++ys).length c') e ee.size::O2) a w1:=by
  refine { sz:=h.sz,df:=h.df,fr:=h.fr,pn:=h.pn,tm:=h.tm,bel:=?_,dat:=(h.dat.evo hevo).weak hok,obj:=?_,own:=?_,dHH:=h.dHH,dHO:=?_,dOO:=?_ }
  ·exact h.bel.trans ⟨hgrow.os,hgrow.tape,hgrow.output,hgrow.size,fun k hk hn=>hgrow.block k (QI hk h.bel.size) (fun e1=>by exact(hmine k e1.symm).elim (fun h=>by omega) hn)⟩
  ·intro p hp
   have hpb:=Uc (h.obj p hp).1;refine⟨?_,(h.obj p hp).2⟩;rw[hgrow.block _ hpb (fun e1=>h.dHO p hp _ hmem e1.symm)];exact(h.obj p hp).1
  ·intro t ht
   rcases QZ.1 ht with ht' | ht'
   ·exact⟨t.weak (t.keep (h.own t (by simp[ht'])).1 (fun g hg=>hgrow.block g (hothers t (by simp[ht']) g hg).2 (hothers t (by simp[ht']) g hg).1) hevo) hok,(h.own t (by simp[ht'])).2⟩
   ·rcases QX.1 ht' with rfl | ht'
    ·refine⟨⟨xs0++csy,?_⟩,fun g hg=>hmine1 g ((Ie A' (m+m2) (xs++ys).length c' c').trans hg)⟩
     grind [Gj]
    ·exact⟨t.weak (t.keep (h.own t (by simp[ht'])).1 (fun g hg=>hgrow.block g (hothers t (by simp[ht']) g hg).2 (hothers t (by simp[ht']) g hg).1) hevo) hok,(h.own t (by simp[ht'])).2⟩
  ·intro p hp t ht
   have hpb:=Uc (h.obj p hp).1;rcases QZ.1 ht with ht' | ht'
   ·exact h.dHO p hp t (by simp[ht'])
   ·rcases QX.1 ht' with rfl | ht'
    ·intro e1
     have e2:(Value.slice A' (m+m2) c').ownBlock=some (β p.1):=(Ie A' (m+m2) (xs++ys).length c' c').trans e1;rcases hblk with he1 | ⟨he1,_⟩
     ·rw[he1]at e2; exact h.dHO p hp _ hmem e2
     grind
    ·exact h.dHO p hp t (by simp[ht'])
  ·have hp:=QA.1 h.dOO
   have hp2:=List.pairwise_cons.1 hp.2.1
   have hnew:∀t∈O1++O2,∀g,t.blks g→(Value.slice A' (m+m2) c').ownBlock≠some g:=by
    grind
   refine QA.2 ⟨hp.1,List.pairwise_cons.2 ⟨fun t ht g hg hg2=>hnew t (by simp[ht]) g hg2 ((Ie A' (m+m2) (xs++ys).length c' c').trans hg),hp2.2⟩,?_⟩;intro t ht u hu g hg;rcases QX.1 hu with rfl | hu
   ·exact fun hg2=>hnew t (by simp[ht]) g hg ((Ie A' (m+m2) (xs++ys).length c' c').trans hg2)
   grind
 have hfact:isV (rSl r) (Jr X.ok X.w.heap.size β H (O1++tl (.slice A' (xs++ys).length c') e ee.size::O2) w1) w1 (xs++ys) (.slice A' (xs++ys).length c'):=by
  refine Xv.2 ⟨_,_,_,rfl,rfl,by omega,fun hpos=>?_⟩;obtain⟨g,rfl⟩:=hA' (by omega);refine⟨g,0,rfl,fun i x hx=>?_⟩;have hgb:(Value.slice (some ⟨g,0,none⟩) (m+m2) c').ownBlock=some g:=rfl;have hbase:=hlt1 g hgb
  have hcells:∀(j:Nat) u,(xs0++csy)[j]?=some u→j<(m+m2)*ee.size→Jr X.ok X.w.heap.size β H (O1++tl (.slice (some ⟨g,0,none⟩) (xs++ys).length c') e ee.size::O2) w1 g j∧w1.cell? ⟨g,j,none⟩=some u:=by
   intro j u hu hj;refine⟨⟨X.mine_ok (hmine1 g hgb) j,hbase.2,fun p hp e1=>?_,fun t ht hcv=>?_⟩,hrow g hgb j u hu⟩
   ·have hpb:=Uc (h.obj p hp).1
    rcases hblk with he1 | ⟨he1,_⟩
    ·exact h.dHO p hp _ hmem (by show(Value.slice A m c).ownBlock=some (β p.1); rw[←he1,e1]; exact hgb)
    grind
   ·rcases QZ.1 ht with ht' | ht'
    ·have:=hothers t (by simp[ht']) g (t.cb hcv)
     grind
    ·rcases QX.1 ht' with rfl | ht'
     ·have c2:=hcv.2
      simp only[Gj,hlen]at c2;omega
     ·have:=hothers t (by simp[ht']) g (t.cb hcv)
      grind
  have hconv:∀{x:τ} {ds:List Value},r.rep (Jr X.ok X.w.heap.size β H (O1++tl (.slice A m c) e ee.size::O2) w) w x ds →
    r.rep (Jr X.ok X.w.heap.size β H (O1++tl (.slice (some ⟨g,0,none⟩) (xs++ys).length c') e ee.size::O2) w1) w1 x ds:=fun hr=>r.weak (r.evo hr hevo) hok
  by_cases hi:i<m
  ·rw[JC (by omega)]at hx
   obtain⟨ds,hr,hd⟩:=hcx4 i x hx;refine⟨ds,hconv hr,fun j u hu=>?_⟩;have hj:j<r.size:=by have:=(List.getElem?_eq_some_iff.1 hu).1; rw[r.len hr]at this; exact this
   have hcu:=hd j u hu
   have hidx:i*r.size+j<m*r.size:=by
    have:(i+1)*r.size≤m*r.size:=QM _ hi;rw[Nat.add_mul]at this; omega
   obtain⟨b',o',hA0,hc0⟩:=hcx3 (by omega);have hown0:b'=g∨True:=.inr trivial
   have hxs:xs0[i*r.size+j]?=some u:=by
    rcases hown.2 with⟨hv0,h0⟩ | ⟨g0,cap,cur,fz0,hv0,_,_,_⟩
    ·omega
    ·injection hv0 with hv0
     rw[hA0]at hv0;injection hv0 with hv0
     injection hv0 with hb0 ho0
     subst hb0; subst ho0;have h1:=(hc0 _ u hcu).2;have h2:=hrow0 b' (by rw[hA0]; rfl) (i*r.size+j) (xs0[i*r.size+j]'(by rw[hxs0,hs]; exact hidx)) (List.getElem?_eq_getElem _);rw[QW]at h1;rw[h1]at h2;rw[List.getElem?_eq_getElem (by rw[hxs0,hs]; exact hidx)];exact h2.symm
   have:=hcells (i*r.size+j) u (by rw[JC (by rw[hxs0,hs]; exact hidx)]; exact hxs) (by rw[hs,Nat.add_mul]; omega);rw[QW];exact this
  ·rw[JF (by omega),hxl]at hx
   obtain⟨ds,hr,hd⟩:=hcy4 (i - m) x hx;refine⟨ds,hconv hr,fun j u hu=>?_⟩;have hj:j<r.size:=by have:=(List.getElem?_eq_some_iff.1 hu).1; rw[r.len hr]at this; exact this
   have hcu:=hd j u hu
   have him:i - m<m2:=by
    have:=(List.getElem?_eq_some_iff.1 hx).1;omega
   have hidx:(i - m)*r.size+j<m2*r.size:=by
    have:(i - m+1)*r.size≤m2*r.size:=QM _ him;rw[Nat.add_mul]at this; omega
   have e1:i*r.size+j=m*r.size+((i - m)*r.size+j):=by
    rw[←Nat.add_assoc,←Nat.add_mul]; congr 2; omega
   have:=hcells (i*r.size+j) u (by
    rw[JF (by rw[hxs0,hs,e1]; omega),hxs0,hs,e1,JR]
    exact hcu) (by rw[hs,Nat.add_mul,e1]; omega)
   rw[QW];exact this
 refine J5 (Wm h hg) (Vi hrun' ?_);have hput:=hSb.put hlt (.v (.slice A' (xs++ys).length c'));have:=hk A' c' _ w1 hfact hput;grind [R4]
end
end Gd

/- Parts of slices and strings; conversions; text put together. -/
namespace Gd
open Go Go.RowKit
def slc{α:Type}(xs:List α)(lo hi:Int):Option (List α):=if 0≤lo∧lo≤hi∧hi≤(xs.length:Int)then some ((xs.drop lo.toNat).take (hi - lo).toNat)else none
theorem slc_ok{α:Type}{xs ys:List α}{lo hi:Int}(h:slc xs lo hi=some ys):0≤lo∧lo≤hi∧hi≤(xs.length:Int)∧ys=(xs.drop lo.toNat).take (hi - lo).toNat∧ys.length=(hi - lo).toNat:=by
 grind [slc,Option.some.inj]
def Jy7(a b:Str):Option Str:=if a.length+b.length≤9223372036854775807 then some (a++b)else none
def Q1d(xs:List Int):Str:=xs.map fun i=>UInt8.ofNat i.toNat
section
variable {P:Program} {T:Tab} {β:Nat→Nat} {X:Cx} {G:GL} {D:List DF} {H:HL} {O:List TL} {a:Act} {w w':World}
variable {ops:Array Oper} {Q:Exit→Act→World→Prop} {rest:List Oper}
theorem Qhk{k:IntKind}{i:Int}{y:Nat}{code:BoundsCode}(h0:0≤i)(h1:i≤y):(Instr.sliceBound (.int k i) y code).run P w=.ok i.toNat w:=by
 simp[Instr.sliceBound,asIntOf,h0,h1]
theorem Qw6(ns:List Int)(s:Str):ns.foldl (fun r n=>r.push (UInt8.ofNat n.toNat)) (ByteArray.mk s.toArray)=ByteArray.mk (s++Q1d ns).toArray:=by
 induction ns generalizing s with
 | nil=>simp[Q1d]
 | cons x ns ih =>
  grind [UInt8.ofNat,ByteArray.ext,ByteArray.push,Q1d]
end
end Gd

/- A region whose order is drawn: what each operation gives, whatever the order. -/
namespace Gd
open Go Go.RowKit
structure FV where
 p:Ok→World→Value→Prop
 evo:∀{ok w w' v},p ok w v→Evo ok w w'→p ok w' v
 weak:∀{ok ok' w v},p ok w v→(∀b o,ok b o→ok' b o)→p ok' w v
def Jks(l:List Oper)(i j:Nat):Bool :=
 match l[i]? with
 | some o=>o.after.toList.any fun e=>Region.binds .any e&&Nat.beq e.on j
 | none=>false
def If(l:List Oper):Nat→Nat→Nat→Bool
 | 0,_,_=>false
 | f+1,i,j=>match l[i]? with
  | some o=>o.after.toList.any fun e=>Region.binds .any e&&(Nat.beq e.on j||If l f e.on j)
  | none=>false
def backB(l:List Oper):Bool:=l.zipIdx.all fun(o,i)=>o.after.toList.all fun e=>!Region.binds .any e||Nat.blt e.on i
def Q6l:List Nat→Bool
 | []=>true
 | d::ds=>Qtt ds d&&Q6l ds
section
variable {P:Program} {T:Tab} {β:Nat→Nat} {X:Cx} {G:GL} {D:List DF} {H:HL} {O:List TL} {a:Act} {w w':World}
theorem Vp{α β:Type}{f f':α→Option β}:∀{l:List α},(∀j∈l,f' j=f j)→l.filterMap f'=l.filterMap f
 | [],_=>rfl
 | y::ys,h=>by
  simp only[JB,h y (.head _),Vp fun j hj=>h j (.tail _ hj)]
theorem Q2x:∀{ds:List Nat},Q6l ds=true→ds.Nodup
 | [],_=>List.Pairwise.nil
 | d::ds,h=>by
  simp only[Q6l,QQ]at h;exact List.Pairwise.cons (fun e he hd=>Jaz h.1 (hd▸he)) (Q2x h.2)
theorem Qrp{l:List Oper}{listed:Array Bool}{i:Nat}:i∈Region.ready .any ⟨l⟩ listed ↔
  i<l.length∧listed.getD i true=false∧∃o,l[i]?=some o∧∀e∈o.after.toList,Region.binds .any e=true→listed.getD e.on false=true:=by
 simp only[Region.ready,QB,JU,JD];constructor
 ·rintro⟨h1,h2⟩
  simp only[QQ,JP]at h2;grind [Array,Oper,Array.all_eq_true_iff_forall_mem]
 grind
def Qw7(l:List Oper)(E:Nat→Prop):Prop:=∀i o,E i→l[i]?=some o→∀e∈o.after.toList,Region.binds .any e=true→E e.on
theorem Qd1{l:List Oper}{E:Nat→Prop}(hc:Qw7 l E):∀(f i j:Nat),If l f i j=true→(∀o,l[i]?=some o→∀e∈o.after.toList,Region.binds .any e=true→E e.on)→E j
 | 0,_,_,h,_=>by simp[If]at h
 | f+1,i,j,h,hi=>by
  simp only[If]at h;split at h
  ·rename_i o ho
   obtain⟨e,he,hb⟩:=ZF.1 h;simp only[QQ,JZ]at hb;have hE:=hi o ho e he hb.1;rcases hb.2 with h1 | h1
   ·rw[←Nat.eq_of_beq_eq_true h1]; exact hE
   ·exact Qd1 hc f e.on j h1 fun o' ho'=>hc _ o' hE ho'
  ·cases h
theorem Jy8{l:List Oper}{i:Nat}{o:Oper}(h:backB l=true)(ho:l[i]?=some o){e:Edge}(he:e∈o.after.toList)(hb:Region.binds .any e=true):e.on<i:=by
 have hm:(o,i)∈l.zipIdx:=by
  rw[List.mem_zipIdx_iff_getElem?]; simpa using ho
 have:=QR.1 h _ hm;have:=QR.1 this e he;simp_all
theorem Jh0{l:List Oper}{listed:Array Bool}(hs:listed.size=l.length)(hb:backB l=true)(hr:Region.ready .any ⟨l⟩ listed=[]):∀i,i<l.length→listed.getD i false=true:=by
 intro i
 induction i using Nat.strongRecOn with
 | _ i ih =>
  intro hi;cases hl:listed.getD i false with
  | true=>rfl
  | false =>
   exfalso
   have:i∈Region.ready .any ⟨l⟩ listed:=by
    rw[Qrp];refine⟨hi,?_,l[i],by simp[hi],fun e he hbe=>?_⟩
    ·grind
    ·have hlt:=Jy8 (o:=l[i]) hb (List.getElem?_eq_getElem hi) he hbe
     grind
   rw[hr]at this;simp at this
theorem Q6m{l:List Oper}{Q:Exit→Act→World→Prop}{i:Nat}{o:Oper}{K:Act→World→Prop}(ho:l[i]?=some o)(h:wpList P ⟨l⟩ (Exit.then K Q) [o] a w):wpOp P ⟨l⟩ Q i K a w:=by
 have ho':(⟨l⟩:Array Oper)[i]?=some o:=by simpa using ho
 unfold wpOp;rw[ho'];unfold wpList at h;simp only;split
 ·rename_i hw
  rw[if_pos hw]at h;rcases h with h | ⟨h1,h2⟩
  ·left
   unfold Oper.wp at *;generalize (execOp a.eval o).run P w=res at *;cases res with
   | ok nx w1 =>
    cases nx<;>first
     | exact h
     | exact Calls.mono h (fun e w'' he=>by cases e<;>exact he)
     | exact Rows.mono h (fun _ _ he=>he)
   | halt x w1=>cases x<;>exact h
  ·exact .inr ⟨h1,h2⟩
 ·rename_i hw
  rw[if_neg hw]at h;exact h
theorem Qpm{l:List Oper}{Q:Exit→Act→World→Prop}{i:Nat}{o:Oper}(ho:l[i]?=some o)(h:wpList P ⟨l⟩ Q (l.drop i) a w):wpOp P ⟨l⟩ Q i (wpList P ⟨l⟩ Q (l.drop (i+1))) a w:=by
 have ho':(⟨l⟩:Array Oper)[i]?=some o:=by simpa using ho
 have hi:=(List.getElem?_eq_some_iff.1 ho).1;rw[List.drop_eq_getElem_cons hi,(List.getElem?_eq_some_iff.1 ho).2]at h;unfold wpOp;rw[ho'];exact h
theorem Sb.perm{O':List TL}(h:Sb β X G D H O a w)(hp:O.Perm O'):Sb β X G D H O' a w:=by
 have hok:∀b o,Jr X.ok X.w.heap.size β H O w b o→Jr X.ok X.w.heap.size β H O' w b o:=fun b o ⟨h1,h2,h3,h4⟩=>⟨h1,h2,h3,fun u hu=>h4 u (hp.mem_iff.2 hu)⟩
 refine { sz:=h.sz,df:=h.df,fr:=h.fr,pn:=h.pn,tm:=h.tm,bel:=h.bel,dat:=h.dat.weak hok,obj:=h.obj,own:=fun u hu=>⟨u.weak (h.own u (hp.mem_iff.2 hu)).1 hok,(h.own u (hp.mem_iff.2 hu)).2⟩,dHH:=h.dHH,dHO:=fun p hp' u hu=>h.dHO p hp' u (hp.mem_iff.2 hu),dOO:=?_ };exact(hp.pairwise_iff (fun {x y} hxy g hg hg2=>hxy g hg2 hg)).1 h.dOO
end
end Gd

/- Struct equality, literals of the call's own, results in cells, local arrays, function values. -/
namespace Gd
open Go Go.RowKit
def Qw8(T:Tab):List Field→List Value→List Value→Option Bool
 | [],_,_=>some true
 | f::fs,xs,ys=>match Qo T f.type,xs[f.offset]?,ys[f.offset]?,Qw8 T fs xs ys with
  | some ⟨_,.int _,_,_,_⟩,some (.int k a),some (.int k' b),some r=>bif Qdz k k' then some ((a==b)&&r)else none
  | some ⟨_,.bool,_,_,_⟩,some (.bool a),some (.bool b),some r=>some ((a==b)&&r)
  | some ⟨_,.string,_,_,_⟩,some (.string ⟨⟨a⟩⟩),some (.string ⟨⟨b⟩⟩),some r=>some ((a==b)&&r)
  | _,_,_,_=>none
def Qcq(fs:List Field):Bool:=fs.all fun f=>f.name != "_"
section
variable {P:Program} {T:Tab} {β:Nat→Nat} {X:Cx} {G:GL} {D:List DF} {H:HL} {O:List TL} {a:Act} {w w':World}
variable {ops:Array Oper} {Q:Exit→Act→World→Prop} {rest:List Oper}
theorem Qny(hT:Jg P T){t:TypeId}{e:TE}(he:Qo T t=some e)(ha:Hk e.d=false){xs:List Value}{off:Nat}{v:Value}(hv:xs[off]?=some v) :
  (part t xs.toArray off).run P w=.ok v w:=Qw2 hT w he xs off (by rw[ha]; simpa using hv)
theorem Q6n(hT:Jg P T)(d:Nat):∀{fs:List Field} {xs ys:List Value} {r:Bool},Qcq fs=true→Qw8 T fs xs ys=some r→(Op.eqFields (d+1) xs.toArray ys.toArray fs).run P w=.ok r w
 | [],xs,ys,r,_,h=>by simp[Qw8]at h; subst h; rfl
 | f::fs,xs,ys,r,hb,h=>by
  simp only[Qcq,XW,QQ]at hb;have hn:f.name ≠ "_" := by grind
  simp only[Qw8]at h
  have key:∀{e:TE} {u v:Value} {p q:Bool},Qo T f.type=some e→Hk e.d=false→xs[f.offset]?=some u→ys[f.offset]?=some v →
    (Op.equalIn (d+1) f.type u v).run P w=.ok p w→Qw8 T fs xs ys=some q→(Op.eqFields (d+1) xs.toArray ys.toArray (f::fs)).run P w=.ok (p&&q) w:=by
   intro e u v p q he ha hu hv hp hq;have ih:=Q6n hT d (by grind [Qcq]) hq;simp only[Op.eqFields,ne_eq,hn,not_false_eq_true,if_true,Sem.run_bind,Qny hT he ha hu,Qny hT he ha hv,Result.andThen_ok,hp];cases p with
   | true=>simpa using ih
   | false=>simp
  split at h
  ·rename_i t1 k z1 s1 b1 k1 a1 k2 a2 q he hu hv hq
   cases hk:Qdz k1 k2 with
   | false=>rw[hk]at h; cases h
   | true =>
    rw[hk]at h;simp only[cond_true,Option.some.injEq]at h;subst h;have:=O6 hk;subst this;exact key he rfl hu hv (run_equalIn_int w d f.type k1 k a1 a2 (J0 hT he).2) hq
  ·rename_i he hu hv hq
   simp at h; subst h;exact key he rfl hu hv (run_equalIn_bool' w d f.type _ _ (J0 hT he).2) hq
  ·rename_i t1 z1 s1 b1 a1 a2 q he hu hv hq
   simp at h; subst h;refine key he rfl hu hv ?_ hq;rw[run_equalIn_string w d f.type ⟨⟨a1⟩⟩ ⟨⟨a2⟩⟩ (J0 hT he).2];rw[show(ByteArray.mk ⟨a1⟩).toList=a1 from ByteArray.toList_mk a1,show(ByteArray.mk ⟨a2⟩).toList=a2 from ByteArray.toList_mk a2]
  ·cases h
theorem Sb.allocTL(h:Sb β X G D H O a w)(hb:Below w.heap.size w w'){t:TL}(ht:∀g,t.blks g→w.heap.size≤g)(hq:t.p (Jr X.ok X.w.heap.size β H (t::O) w') w'):Sb β X G D H (t::O) a w':=by
 have h':=h.below hb;have hevo:Evo (Jr X.ok X.w.heap.size β H O w) w w':=(Evo.of_below hb).mono fun b o hk=>hk.2.1
 have hok:∀b o,Jr X.ok X.w.heap.size β H O w b o→Jr X.ok X.w.heap.size β H (t::O) w' b o:=by
  rintro b o ⟨h1,h2,h3,h4⟩;refine⟨h1,QI h2 hb.size,h3,fun u hu hc=>?_⟩;rcases QX.1 hu with rfl | hu
  ·have:=ht b (u.cb hc); omega
  ·exact h4 u hu hc
 refine { h' with dat:=(h.dat.evo hevo).weak hok,own:=fun u hu=>?_,dHO:=fun p hp u hu=>?_,dOO:=List.Pairwise.cons (fun u hu g hg hg2=>?_) h'.dOO }
 ·rcases QX.1 hu with rfl | hu
  ·exact⟨hq,fun g hg=>.inl (Nat.le_trans h.bel.size (ht g hg))⟩
  ·exact⟨u.weak (u.keep (h.own u hu).1 (fun g hg=>hb.block g (h.olt hu hg)) hevo) hok,(h.own u hu).2⟩
 ·rcases QX.1 hu with rfl | hu
  ·intro hg
   have:=ht _ hg;have:=h.hlt hp;omega
  ·exact h'.dHO p hp u hu
 ·have:=ht g hg
  have:=h.olt hu hg2;omega
theorem Sb.allocOwn(h:Sb β X G D H O a w)(hb:Below w.heap.size w w'){v:Value}{e sz m:Nat}{xs:List Value}(hv:v.ownBlock=some w.heap.size∨v.ownBlock=none)(hm:Gj v=m)(hown:w'.ownsRowS 0 e sz v m xs) :
  Sb β X G D H (tl v e sz::O) a w':=by
 subst hm;refine h.allocTL hb (t:=tl v e sz) (fun g hg=>?_) ⟨xs,hown⟩;rcases hv with hv | hv
 ·have hg:v.ownBlock=some g:=hg
  rw[hv]at hg; grind
 ·have hg:v.ownBlock=some g:=hg
  rw[hv]at hg; cases hg
theorem Jy9(w:World)(B:Nat)(hB:B≤w.heap.size)(e sz m:Nat)(cs:List Value)(hl:cs.length=m*sz)(hm:m≤maxLen) :
  (w.alloc (.cells cs.toArray e)).ownsRowS B e sz (.slice (some ⟨w.heap.size,0,none⟩) m m) m cs :=
 ⟨hl,.inr ⟨w.heap.size,m,cs.toArray,(0,0),rfl,hB,heap_alloc_new w _,.inl rfl,QY _,hm,by simp[hl],by rw[←hl]; simp⟩⟩
theorem Qw9(hT:Jg P T)(h:Sb β X G D H O a w){t:TypeId}{d:Nat}{ps:String}{af:Array Edge}{ty:TypeId}{gd:Option (Nat×Bool)}
  (hg:Nu ops G ⟨some d,.buildSlice t 0 ⟨[]⟩,ty,ps,af,gd⟩=some true) (hlt:okD X d=true)
  {τ:Type} {r:RT τ} {e:TypeId} {te ee:TE} (ht:Qo T t=some te) (htd:te.d=.slice e) (he:Qo T e=some ee)
  (hk:∀b a' w',isV (rSl r) (Jr X.ok X.w.heap.size β H (tl (.slice (some ⟨b,0,none⟩) (List.length ([]:List τ)) 0) e ee.size::O) w') w' [] (.slice (some ⟨b,0,none⟩) (List.length ([]:List τ)) 0) →
   Sb β X (Qfp G d (.v (.slice (some ⟨b,0,none⟩) (List.length ([]:List τ)) 0))) D H (tl (.slice (some ⟨b,0,none⟩) (List.length ([]:List τ)) 0) e ee.size::O) a' w'→wpList P ops Q rest a' w') :
  wpList P ops Q (⟨some d,.buildSlice t 0 ⟨[]⟩,ty,ps,af,gd⟩::rest) a w:=by
 have hrun:(execOp a.eval ⟨some d,.buildSlice t 0 ⟨[]⟩,ty,ps,af,gd⟩).run P w=.ok (.value (.slice (some ⟨w.heap.size,0,none⟩) 0 0)) (w.alloc (.cells #[] e)):=by
  have hun:(underlying t).run P w=.ok (.slice e) w:=by rw[J7 hT w ht,htd]
  unfold execOp;simp[Instr.buildSlice,hun,Yn hT w he,Instr.fill,newRow];rw[show Array.range 0=#[]from by grind];simp
 refine J5 (Wm h hg) (Vi hrun ?_);have hb:Below w.heap.size w (w.alloc (.cells #[] e)):=(Below.refl _ _).alloc (QY _) _
 exact hk _ _ _ (Xv.2 ⟨_,0,0,rfl,rfl,QY _,fun h=>absurd h (by omega)⟩)
  ((h.allocOwn hb (.inl rfl) rfl (Jy9 w 0 (QN _) e ee.size 0 [] (by simp) (by simp[maxLen]))).put hlt (.v _))
end
end Gd

/- Results that are rows of the caller's own; local arrays; objects that are no longer written; function values. -/
namespace Gd
open Go Go.RowKit
section
variable {P:Program} {T:Tab} {β:Nat→Nat} {X:Cx} {G:GL} {D:List DF} {H:HL} {O:List TL} {a:Act} {w w':World}
variable {ops:Array Oper} {Q:Exit→Act→World→Prop} {rest:List Oper}
end
end Gd

/- Local arrays of integers. -/
namespace Gd
open Go Go.RowKit
section
variable {P:Program} {T:Tab} {β:Nat→Nat} {X:Cx} {G:GL} {D:List DF} {H:HL} {O:List TL} {a:Act} {w w':World}
variable {ops:Array Oper} {Q:Exit→Act→World→Prop} {rest:List Oper}
end
end Gd

/- Division and shifts by what is not a constant. -/
namespace Gd
open Go Go.RowKit
def Tp(k:IntKind)(x y:Int):Option Int:=if y=0 then none else some (k.wrap (x.tdiv y))
def Qrq(x y:Int):Option Int:=if y=0 then none else some (x.tmod y)
def Ja9(k:IntKind)(x y:Int):Option Int:=if y<0 then none else some (x.fdiv (2 ^ (min y.toNat k.bits)))
def Jow(k:IntKind)(x y:Int):Option Int:=if y<0 then none else some (k.wrap (x*2 ^ (min y.toNat k.bits)))
section
variable {P:Program} {T:Tab} {β:Nat→Nat} {X:Cx} {G:GL} {D:List DF} {H:HL} {O:List TL} {a:Act} {w w':World}
variable {ops:Array Oper} {Q:Exit→Act→World→Prop} {rest:List Oper}
theorem Jza{t:TypeId}{k:IntKind}{u v z:Int}(h:Tp k u v=some z)(w:World):(binOp .quo t (.int k u) (.int k v)).run P w=.ok (.int k z) w:=by
 simp_all [Tp,Option.some.inj,binOp_quo,Op.intDiv,if_neg]
theorem Jzb{t:TypeId}{k:IntKind}{u v z:Int}(h:Qrq u v=some z)(w:World):(binOp .rem t (.int k u) (.int k v)).run P w=.ok (.int k z) w:=by
 simp_all [Qrq,Option.some.inj,binOp_rem,Op.intDiv,if_neg]
theorem Jzc{t:TypeId}{k k2:IntKind}{u v z:Int}(h:Ja9 k u v=some z)(w:World):(binOp .shr t (.int k u) (.int k2 v)).run P w=.ok (.int k z) w:=by
 simp_all [Ja9,Option.some.inj,binOp_shr,Op.shift,if_neg]
theorem Jzd{t:TypeId}{k k2:IntKind}{u v z:Int}(h:Jow k u v=some z)(w:World):(binOp .shl t (.int k u) (.int k2 v)).run P w=.ok (.int k z) w:=by
 unfold Jow at h;split at h
 ·cases h
 ·rename_i hv
  have:=Option.some.inj h; subst this;show(Op.shift .shl k u k2 v).run P w=_;simp_all [Op.shift,if_neg]
end
end Gd
