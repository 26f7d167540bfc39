/- Decompilation core: typed readings of values, the state of a walk, and its frame. -/
import Derived.WalkKit
import Derived.KernelRfl
import Derived.Lib.AppendStr
import Derived.Lib.ConvBytes
import Derived.Orders
namespace Go
set_option linter.defProp false
def QQ := @Bool.and_eq_true
def QJ := @List.mem_cons
def QX := @List.mem_append
def QZ := @List.mem_map
def QK := @Nat.le_of_ble_eq_true
def QV := @Nat.zero_add
def QW := @Nat.le_trans
def QY := @Nat.le_refl
def QU := @Option.bind_some
def QG := @List.pairwise_append
def QH := @List.append_nil
def QE := @List.eq_nil_of_length_eq_zero
def QF := @List.nil_append
def QA := @List.cons_append
def QB := @Nat.lt_of_lt_of_le
def QC := @List.map_append
def QD := @List.mem_filter
def QI := @Nat.mul_le_mul_right
def QM := @Array.getD_eq_getD_getElem?
def QN := @List.nodup_cons
def QO := @Int.tdiv_eq_ediv_of_nonneg
def QP := @List.all_eq_true
def QR := @Nat.zero_le
def QT := @List.map_cons
def JQ := @List.filterMap_append
def JJ := @List.perm_append_comm
def JX := @List.mem_range
def JZ := @List.getElem?_take
def JK := @List.getElem?_drop
def JV := @Int.tmod_eq_emod_of_nonneg
def JW := @List.getElem?_append_left
def JY := @List.pairwise_map
def JU := @List.length_nil
def JG := @Bool.false_eq_true
def JH := @List.mem_singleton
def JE := @List.getElem?_append_right
def JF := @Bool.not_eq_true'
def JA := @List.filterMap_cons
def JB := @List.not_mem_nil
def JC := @List.size_toArray
def JD := @List.ext_getElem?
def JI := @List.flatMap_cons
def JL := @Bool.or_eq_true
def JM := @List.all_cons
def JN := @Array.getElem?_eq_getElem
def JO := @List.length_map
def JP := @Nat.add_zero
def JR := @Bool.or_eq_false_iff
def JS := @List.getElem?_map
def JT := @Int.le_refl
def XQ := @Nat.add_sub_cancel_left
def XJ := @Nat.succ_le_succ
def XX := @List.take_append_of_le_length
def XZ := @List.drop_of_length_le
def XK := @Array.getElem?_append_left
def XV := @Array.getElem?_replicate
def XW := @Option.isSome_iff_exists
def XY := @Option.map_some
def XU := @Nat.le_mul_of_pos_right
def XG := @Option.map_eq_some_iff
def XH := @Bool.eq_false_iff
def XE := @List.length_singleton
def XF := @List.take_append
def XA := @List.filter_cons
def XB := @Nat.mul_one
def XC := @Nat.le_succ
def XD := @List.all_append
def XI := @Nat.add_comm
def XL := @Nat.zero_mul
def XM := @List.take_take
def XN := @List.take_zero
def XO := @Nat.max_le
def XP := @Array.mapM_eq_mapM_toList
def XR := @List.filterMap_eq_nil_iff
def XT := @List.pairwise_iff_getElem
def ZQ := @List.mem_or_eq_of_mem_set
def ZJ := @Array.size_append
def ZX := @List.getElem_map
def ZZ := @List.drop_length
def ZK := @List.pairwise_singleton
def ZV := @List.getElem?_cons_zero
def ZW := @List.getElem_mem
def ZY := @List.map_map
def ZU := @List.map_nil
def ZG := @List.drop_eq_nil_of_le
def ZH := @Nat.max_zero
def ZE := @Bool.eq_iff_iff
def ZF := @List.eraseIdx_sublist
def ZA := @Array.getElem?_modify
def ZB := @Array.getElem?_toList
def ZC := @List.length_filter_le
def ZD := @List.mapM_cons
def ZI := @List.mem_of_mem_take
def ZL := @Bool.of_not_eq_false
def ZM := @List.flatten_append
def ZN := @List.filter_eq_self
def ZO := @List.filterMap_some
def ZP := @List.mergeSort_perm
def ZR := @Bool.false_or
def ZS := @Nat.ne_of_lt
def ZT := @Nat.zero_max
def KQ := @Nat.one_mul
def Qyz(fz:Nat×Nat)(n:Nat):Prop:=fz=(0,0)∨fz=(n,n+1)
def World.ownsRowS(w:World)(base:Nat)(e:TypeId)(size:Nat)(v:Value)(n:Nat)(xs:List Value):Prop :=
  xs.length=n*size ∧
  ((v=.slice none 0 0∧n=0) ∨
   ∃g cap cur fz,v=.slice (some ⟨g,0,none⟩) n cap∧base≤g∧w.heap[g]?=some (.cells cur e fz)∧Qyz fz cur.size∧n≤cap∧cap≤maxLen∧cap*size≤cur.size∧cur.toList.take (n*size)=xs)
section
variable {w:World} {base:Nat} {e:TypeId} {size:Nat} {v:Value} {n:Nat} {xs:List Value}
theorem World.ownsRowS_nil(w:World)(base:Nat)(e:TypeId)(size:Nat):w.ownsRowS base e size (.slice none 0 0) 0 []:=⟨by simp,.inl ⟨rfl,rfl⟩⟩
theorem World.ownsRowS.lt(h:w.ownsRowS base e size v n xs):∀k,v.ownBlock=some k→base≤k∧k<w.heap.size:=by
 intro k hk
 rcases h.2 with⟨rfl,_⟩ | ⟨g,cap,cur,fz,rfl,hb,hg,_⟩
 ·simp[Value.ownBlock]at hk
 grind [Value.ownBlock,Array.getElem?_eq_some_iff]
theorem World.ownsRowS.cells(h:w.ownsRowS base e size v n xs){g:Nat}(hg:v.ownBlock=some g):∀j u,xs[j]?=some u→w.cell? ((⟨g,0,none⟩:Addr).add j)=some u:=by
 intro j u hu
 rcases h.2 with⟨rfl,_⟩ | ⟨g',cap,cur,fz,rfl,_,hgg,_,_,_,_,htake⟩
 ·simp[Value.ownBlock]at hg
 grind [Value.ownBlock,Addr,Addr.add,cell_of_row]
end
theorem Zp(P:Program)(g o:Nat)(t:TypeId)(fz:Nat×Nat):∀(vs:List Value) (i:Nat) (cur:Array Value) (w:World),w.heap[g]?=some (.cells cur t fz)→Qyz fz cur.size→o+i+vs.length≤cur.size→(∀v∈vs,v.oneCell'=true) →
  (storeCells ⟨g,o,none⟩ vs i).run P w=.ok () (w.setRow g (cur.toList.take (o+i)++vs++cur.toList.drop (o+i+vs.length)).toArray)
 | [],i,cur,w,hg,_,_,_=>by
  simp only[storeCells,QH,JU,JP,List.take_append_drop,Array.toArray_toList]
  rw[setRow_self w g cur t fz hg]
  rfl
 | v::rest,i,cur,w,hg,hfz,hl,h1=>by
  have hi:o+i<cur.size:=by grind
  have hadd:(⟨g,o,none⟩:Addr).add i=⟨g,o+i,none⟩:=by grind [Addr.add]
  have hcell:w.cell? ⟨g,o+i,none⟩=some cur[o+i]:=by grind [World.cell?]
  have hfro:w.frozen? ⟨g,o+i,none⟩=false:=by
   rcases hfz with rfl | rfl
   ·simp[World.frozen?,hg]
   grind [World.frozen?,Bool.and_eq_false_iff,decide_eq_false_iff_not]
  have hst:(store ((⟨g,o,none⟩:Addr).add i) v).run P w=.ok () (w.setRow g (cur.setIfInBounds (o+i) v)):=by
   rw[hadd,run_store P w _ v _ (h1 v (by simp)),hcell]
   grind [setCell_eq_setRow]
  have ih:=Zp P g o t fz rest (i+1) (cur.setIfInBounds (o+i) v) (w.setRow g (cur.setIfInBounds (o+i) v)) (setRow_heap w g cur _ t _ hg) (by simpa using hfz) (by grind) (fun x hx=>h1 x (by simp[hx]))
  simp only[storeCells,Sem.run_bind,hst,Result.andThen_ok,ih,setRow_setRow]
  grind [list_seg_step,Array.toList_setIfInBounds,Nat.add_assoc]
end Go
namespace Gd
open Go Go.RowKit
set_option linter.unusedVariables false
set_option linter.unusedSimpArgs false
abbrev Ok:=Nat→Nat→Prop
structure Evo(ok:Ok)(w w':World):Prop where
 size:w.heap.size≤w'.heap.size
 cell:∀b o,ok b o→w'.cell? ⟨b,o,none⟩=w.cell? ⟨b,o,none⟩
 map:∀b es c,ok b 0→w.heap[b]?=some (.map es c)→w'.heap[b]?=some (.map es c)
def lt(w:World):Ok:=fun b _=>b<w.heap.size
theorem Evo.of_below{w w':World}(h:Below w.heap.size w w'):Evo (lt w) w w' :=
 ⟨h.size,fun b o hb=>h.cell (p:=⟨b,o,none⟩) hb,fun b es c hb hm=>by rw[h.block b hb]; exact hm⟩
theorem Evo.mono{ok ok':Ok}{w w':World}(h:Evo ok' w w')(hk:∀b o,ok b o→ok' b o):Evo ok w w' :=
 ⟨h.size,fun b o hb=>h.cell b o (hk b o hb),fun b es c hb hm=>h.map b es c (hk b 0 hb) hm⟩
theorem Evo.of_blocks{ok:Ok}{w w':World}(hs:w.heap.size≤w'.heap.size)(h:∀b o,ok b o→w'.heap[b]?=w.heap[b]?):Evo ok w w' :=
 ⟨hs,fun b o hb=>World.cell?_of_block (w:=w) (h b o hb),fun b es c hb hm=>by rw[h b 0 hb]; exact hm⟩
structure Uz(L:List Nat)(B:Nat)(w w':World):Prop where
 os:w'.os=w.os
 tape:w'.tape=w.tape
 output:w'.output=w.output
 size:w.heap.size≤w'.heap.size
 block:∀k,k<B→k∉L→w'.heap[k]?=w.heap[k]?
theorem Uz.refl(L:List Nat)(B:Nat)(w:World):Uz L B w w:=⟨rfl,rfl,rfl,QY _,fun _ _ _=>rfl⟩
theorem Uz.of(L:List Nat){B:Nat}{w w':World}(h:Below B w w'):Uz L B w w':=⟨h.os,h.tape,h.output,h.size,fun k hk _=>h.block k hk⟩
theorem Uz.nil{B:Nat}{w w':World}(h:Uz [] B w w'):Below B w w':=⟨h.os,h.tape,h.output,h.size,fun k hk=>h.block k hk (by simp)⟩
theorem Uz.trans{L:List Nat}{B:Nat}{a b c:World}(h:Uz L B a b)(k:Uz L B b c):Uz L B a c :=
 ⟨k.os.trans h.os,k.tape.trans h.tape,k.output.trans h.output,QW h.size k.size,fun i hi hn=>(k.block i hi hn).trans (h.block i hi hn)⟩
structure RT(τ:Type) where
 size:Nat
 agg:Bool
 rep:Ok→World→τ→List Value→Prop
 len:∀{ok w x cs},rep ok w x cs→cs.length=size
 one:agg=false→size=1
 flat:∀{ok w x cs},rep ok w x cs→∀c∈cs,c.oneCell'=true
 evo:∀{ok w w' x cs},rep ok w x cs→Evo ok w w'→rep ok w' x cs
 weak:∀{ok ok' w x cs},rep ok w x cs→(∀b o,ok b o→ok' b o)→rep ok' w x cs
def RT.val{τ:Type}(r:RT τ)(cs:List Value):Value:=if r.agg then .agg cs.toArray else cs.headD undef
def isV{τ:Type}(r:RT τ)(ok:Ok)(w:World)(x:τ)(v:Value):Prop:=∃cs,r.rep ok w x cs∧v=r.val cs
theorem isV.evo{τ:Type}{r:RT τ}{ok:Ok}{w w':World}{x:τ}{v:Value}(h:isV r ok w x v)(he:Evo ok w w'):isV r ok w' x v :=
 let⟨cs,hr,hv⟩:=h; ⟨cs,r.evo hr he,hv⟩
theorem isV.weak{τ:Type}{r:RT τ}{ok ok':Ok}{w:World}{x:τ}{v:Value}(h:isV r ok w x v)(hk:∀b o,ok b o→ok' b o):isV r ok' w x v :=
 let⟨cs,hr,hv⟩:=h; ⟨cs,r.weak hr hk,hv⟩
def If(ok:Ok)(w:World)(b o:Nat)(cs:List Value):Prop:=∀(j:Nat) u,cs[j]?=some u→ok b (o+j)∧w.cell? ⟨b,o+j,none⟩=some u
theorem If.evo{ok:Ok}{w w':World}{b o:Nat}{cs:List Value}(h:If ok w b o cs)(he:Evo ok w w'):If ok w' b o cs :=
 fun j u hu=>⟨(h j u hu).1,(he.cell _ _ (h j u hu).1).trans (h j u hu).2⟩
theorem If.weak{ok ok':Ok}{w:World}{b o:Nat}{cs:List Value}(h:If ok w b o cs)(hk:∀b o,ok b o→ok' b o):If ok' w b o cs :=
 fun j u hu=>⟨hk _ _ (h j u hu).1,(h j u hu).2⟩
def Qrj{τ:Type}(r:RT τ)(ok:Ok)(w:World)(x:τ)(p:Value):Prop :=
 ∃b o cs,p=.pointer (some ⟨b,o,none⟩)∧r.rep ok w x cs∧If ok w b o cs
theorem Qrj.evo{τ:Type}{r:RT τ}{ok:Ok}{w w':World}{x:τ}{v:Value}(h:Qrj r ok w x v)(he:Evo ok w w'):Qrj r ok w' x v :=
 let⟨b,o,cs,hv,hr,hc⟩:=h; ⟨b,o,cs,hv,r.evo hr he,hc.evo he⟩
theorem Qrj.weak{τ:Type}{r:RT τ}{ok ok':Ok}{w:World}{x:τ}{v:Value}(h:Qrj r ok w x v)(hk:∀b o,ok b o→ok' b o):Qrj r ok' w x v :=
 let⟨b,o,cs,hv,hr,hc⟩:=h; ⟨b,o,cs,hv,r.weak hr hk,hc.weak hk⟩
def Tk(k:IntKind):RT Int where
 size:=1
 agg:=false
 rep:=fun _ _ x cs=>cs=[.int k x]
 len:=by grind
 one:=fun _=>rfl
 flat:=by rintro _ _ x cs rfl c hc; simp at hc; subst hc; rfl
 evo:=fun h _=>h
 weak:=fun h _=>h
def Qv4:RT Bool where
 size:=1
 agg:=false
 rep:=fun _ _ x cs=>cs=[.bool x]
 len:=by grind
 one:=fun _=>rfl
 flat:=by rintro _ _ x cs rfl c hc; simp at hc; subst hc; rfl
 evo:=fun h _=>h
 weak:=fun h _=>h
abbrev Str:=List UInt8
def Yp(s:Str):Value:=.string ⟨s.toArray⟩
def Jsi:RT Str where
 size:=1
 agg:=false
 rep:=fun _ _ x cs=>cs=[Yp x]
 len:=by grind
 one:=fun _=>rfl
 flat:=by rintro _ _ x cs rfl c hc; simp at hc; subst hc; rfl
 evo:=fun h _=>h
 weak:=fun h _=>h
def Qv5{τ:Type}(r:RT τ)(ok:Ok)(w:World)(xs:List τ)(v:Value):Prop :=
 ∃A n c,v=.slice A n c∧xs.length=n∧n≤c ∧
  (0<n→∃b o,A=some ⟨b,o,none⟩∧∀i x,xs[i]?=some x→∃cs,r.rep ok w x cs∧If ok w b (o+i*r.size) cs)
def rSl{τ:Type}(r:RT τ):RT (List τ) where
 size:=1
 agg:=false
 rep:=fun ok w xs cs=>∃v,cs=[v]∧Qv5 r ok w xs v
 len:=by grind
 one:=fun _=>rfl
 flat:=by rintro _ _ x cs ⟨v,rfl,A,n,c,rfl,_⟩ d hd; simp at hd; subst hd; rfl
 evo:=by
  rintro ok w w' xs cs ⟨v,rfl,A,n,c,rfl,hl,hc,hn⟩ he
  refine⟨_,rfl,A,n,c,rfl,hl,hc,fun h0=>?_⟩
  obtain⟨b,o,hA,hx⟩:=hn h0
  refine⟨b,o,hA,fun i x hi=>?_⟩
  obtain⟨cs,hr,ha⟩:=hx i x hi
  exact⟨cs,r.evo hr he,ha.evo he⟩
 weak:=by
  rintro ok ok' w xs cs ⟨v,rfl,A,n,c,rfl,hl,hc,hn⟩ hk
  refine⟨_,rfl,A,n,c,rfl,hl,hc,fun h0=>?_⟩
  obtain⟨b,o,hA,hx⟩:=hn h0
  refine⟨b,o,hA,fun i x hi=>?_⟩
  obtain⟨cs,hr,ha⟩:=hx i x hi
  exact⟨cs,r.weak hr hk,ha.weak hk⟩
theorem Ja1{k:IntKind}{ok:Ok}{w:World}{x:Int}{v:Value}:isV (Tk k) ok w x v↔v=.int k x:=by
 constructor
 ·rintro⟨cs,rfl,rfl⟩; rfl
 ·rintro rfl; exact⟨_,rfl,rfl⟩
theorem Qrk{ok:Ok}{w:World}{x:Bool}{v:Value}:isV Qv4 ok w x v↔v=.bool x:=by
 constructor
 ·rintro⟨cs,rfl,rfl⟩; rfl
 ·rintro rfl; exact⟨_,rfl,rfl⟩
theorem Jnf{ok:Ok}{w:World}{x:Str}{v:Value}:isV Jsi ok w x v↔v=Yp x:=by
 constructor
 ·rintro⟨cs,rfl,rfl⟩; rfl
 ·rintro rfl; exact⟨_,rfl,rfl⟩
theorem U9{τ:Type}{r:RT τ}{ok:Ok}{w:World}{xs:List τ}{v:Value}:isV (rSl r) ok w xs v↔Qv5 r ok w xs v:=by
 constructor
 ·rintro⟨cs,⟨v',rfl,h⟩,rfl⟩; exact h
 ·intro h; exact⟨[v],⟨v,rfl,h⟩,rfl⟩
structure Fld(σ:Type) where
 τ:Type
 r:RT τ
 get:σ→τ
def Wb{τ:Type}(r:RT τ)(ok:Ok)(w:World):List τ→List Value→Prop
 | [],cs=>cs=[]
 | x::xs,cs=>∃c1 c2,cs=c1++c2∧r.rep ok w x c1∧Wb r ok w xs c2
theorem Q2e{τ:Type}{r:RT τ}{ok:Ok}{w:World}{xs:List τ}{cs:List Value}(h:Wb r ok w xs cs):cs.length=xs.length*r.size:=by
 induction xs generalizing cs with
 | nil=>grind [Wb]
 | cons x xs ih=>obtain⟨c1,c2,rfl,h1,h2⟩:=h; simp[r.len h1,ih h2,Nat.add_mul,XI]
def Jhv{τ:Type}(n:Nat)(r:RT τ):RT (List τ) where
 size:=n*r.size
 agg:=true
 rep:=fun ok w xs cs=>xs.length=n∧Wb r ok w xs cs
 len:=by rintro ok w xs cs ⟨rfl,h⟩; exact Q2e h
 one:=fun h=>by cases h
 flat:=by
  rintro ok w xs cs ⟨hl,h⟩
  clear hl
  induction xs generalizing cs with
  | nil=>grind [Wb]
  | cons f fs ih =>
   obtain⟨c1,c2,rfl,h1,h2⟩:=h
   intro c hc
   rcases QX.1 hc with hc | hc
   ·exact r.flat h1 c hc
   ·exact ih h2 c hc
 evo:=by
  rintro ok w w' xs cs ⟨hl,h⟩ he
  refine⟨hl,?_⟩
  clear hl
  induction xs generalizing cs with
  | nil=>exact h
  | cons f fs ih=>obtain⟨c1,c2,rfl,h1,h2⟩:=h; exact⟨c1,c2,rfl,r.evo h1 he,ih h2⟩
 weak:=by
  rintro ok ok' w xs cs ⟨hl,h⟩ he
  refine⟨hl,?_⟩
  clear hl
  induction xs generalizing cs with
  | nil=>exact h
  | cons f fs ih=>obtain⟨c1,c2,rfl,h1,h2⟩:=h; exact⟨c1,c2,rfl,r.weak h1 he,ih h2⟩
structure DF where
 p:Ok→World→Prop
 evo:∀{ok w w'},p ok w→Evo ok w w'→p ok w'
 weak:∀{ok ok' w},p ok w→(∀b o,ok b o→ok' b o)→p ok' w
def DF.v{τ:Type}(r:RT τ)(x:τ)(v:Value):DF:=⟨fun ok w=>isV r ok w x v,fun h he=>h.evo he,fun h hk=>h.weak hk⟩
def Qkx(ok:Ok)(w:World):List DF→Prop
 | []=>True
 | d::ds=>d.p ok w∧Qkx ok w ds
theorem Qkx.evo{ok:Ok}{w w':World}{D:List DF}(h:Qkx ok w D)(he:Evo ok w w'):Qkx ok w' D:=by
 induction D with
 | nil=>trivial
 | cons d ds ih=>exact⟨d.evo h.1 he,ih h.2⟩
theorem Qkx.weak{ok ok':Ok}{w:World}{D:List DF}(h:Qkx ok w D)(hk:∀b o,ok b o→ok' b o):Qkx ok' w D:=by
 induction D with
 | nil=>trivial
 | cons d ds ih=>exact⟨d.weak h.1 hk,ih h.2⟩
theorem Qkx.get{ok:Ok}{w:World}{D:List DF}(h:Qkx ok w D){i:Nat}{d:DF}(hi:D[i]?=some d):d.p ok w:=by
 induction D generalizing i with
 | nil=>simp at hi
 | cons e ds ih =>
  cases i with
  | zero=>simp at hi; subst hi; exact h.1
  | succ i=>simp at hi; exact ih h.2 hi
inductive AV where
 | v (x:Value)
 | o (id off:Nat)
structure HB where
 cs:List Value
 t:TypeId
def Jv{α:Type}:List (Nat×α)→Nat→Option α
 | [],_=>none
 | (k,x)::l,t=>bif Nat.beq k t then some x else Jv l t
theorem Qmy{α:Type}{l:List (Nat×α)}{t:Nat}{x:α}(h:Jv l t=some x):(t,x)∈l:=by
 induction l with
 | nil=>simp[Jv]at h
 | cons p l ih =>
  obtain⟨k,y⟩:=p
  simp only[Jv]at h
  cases hb:Nat.beq k t with
  | true=>rw[hb]at h; simp_all
  | false=>rw[hb]at h; grind
def Q2f{α:Type}:List (Nat×α)→Nat→List (Nat×α)
 | [],_=>[]
 | (k,x)::l,t=>bif Nat.beq k t then Q2f l t else(k,x)::Q2f l t
theorem Jhw{α:Type}{l:List (Nat×α)}{t:Nat}{p:Nat×α}(h:p∈Q2f l t):p∈l∧p.1≠t:=by
 induction l with
 | nil=>simp[Q2f]at h
 | cons q l ih =>
  obtain⟨k,y⟩:=q
  simp only[Q2f]at h
  cases hb:Nat.beq k t with
  | true=>rw[hb]at h; grind
  | false =>
   rw[hb]at h
   simp only[cond_false,QJ]at h
   rcases h with rfl | h
   ·grind [Nat.beq_refl]
   grind
def Qce{α:Type}(l:List (Nat×α))(t:Nat)(x:α):List (Nat×α):=(t,x)::Q2f l t
def den(β:Nat→Nat):AV→Value
 | .v x=>x
 | .o id off=>.pointer (some ⟨β id,off,none⟩)
def Wk:Value→Nat
 | .slice _ n _=>n
 | _=>0
structure TL where
 blks:Nat→Prop
 cov:Nat→Nat→Prop
 cb:∀{b o},cov b o→blks b
 p:Ok→World→Prop
 keep:∀{ok w w'},p ok w→(∀g,blks g→w'.heap[g]?=w.heap[g]?)→Evo ok w w'→p ok w'
 weak:∀{ok ok' w},p ok w→(∀b o,ok b o→ok' b o)→p ok' w
 lt:∀{ok w},p ok w→∀g,blks g→g<w.heap.size
theorem Qcf{base e s:Nat}{v:Value}{n:Nat}{xs:List Value}{w w':World}(hx:w.ownsRowS base e s v n xs)(hb:∀g,v.ownBlock=some g→w'.heap[g]?=w.heap[g]?):w'.ownsRowS base e s v n xs:=by
 refine⟨hx.1,?_⟩
 rcases hx.2 with h1 | ⟨g,cap,cur,fz,hv,hg,hh,r⟩
 ·exact .inl h1
 ·refine .inr ⟨g,cap,cur,fz,hv,hg,?_,r⟩
  rw[hb g (by rw[hv]; rfl)]; exact hh
def tl(v:Value)(e s:Nat):TL where
 blks:=fun g=>v.ownBlock=some g
 cov:=fun b o=>v.ownBlock=some b∧Wk v*s≤o
 cb:=fun h=>h.1
 p:=fun _ w=>∃xs,w.ownsRowS 0 e s v (Wk v) xs
 keep:=fun⟨xs,h⟩ hb _=>⟨xs,Qcf h hb⟩
 weak:=fun h _=>h
 lt:=fun⟨_,h⟩ g hg=>(h.lt g hg).2
abbrev GL:=List (Nat×AV)
abbrev HL:=List (Nat×HB)
def Je(ok0:Ok)(B:Nat)(β:Nat→Nat)(H:HL)(O:List TL)(w:World):Ok:=fun b o =>
 (ok0 b o∨B≤b)∧b<w.heap.size∧(∀h∈H,β h.1≠b)∧(∀t∈O,¬ t.cov b o)
structure Cx where
 n:Nat
 ok:Ok
 w:World
 res:List Nat
 a0:Act
 pin:Option (Nat→Nat)
 lent:List Nat
 lok:∀g∈lent,∀o,ok g o
 dfs:List Deferred
def okL(L:List Nat)(ok:Ok):Ok:=fun b o=>ok b o∨b∈L
abbrev cxL(L:List Nat)(n:Nat)(ok:Ok)(w:World):Cx:=⟨n,okL L ok,w,[],⟨#[],[]⟩,none,L,fun _ hg _=>.inr hg,[]⟩
def Cx.mine(X:Cx)(g:Nat):Prop:=X.w.heap.size≤g∨g∈X.lent
theorem Cx.mine_ok{X:Cx}{g:Nat}(h:X.mine g)(o:Nat):X.ok g o∨X.w.heap.size≤g:=h.elim .inr fun h=>.inl (X.lok g h o)
def Qos:List Nat→Nat→Bool
 | [],_=>true
 | k::l,t=>bif Nat.beq k t then false else Qos l t
theorem Q2g{l:List Nat}{t:Nat}(h:Qos l t=true):t∉l:=by
 induction l with
 | nil=>simp
 | cons k l ih =>
  simp only[Qos]at h
  cases hb:Nat.beq k t with
  | true=>rw[hb]at h; cases h
  | false =>
   rw[hb]at h
   intro hm
   simp_all
def okD(X:Cx)(d:Nat):Bool:=Nat.blt d X.n&&(Qos X.res d&&Nat.blt d 100000)
theorem Qcg{X:Cx}{d:Nat}(h:okD X d=true):d<X.n:=by
 simp_all [okD,QQ,Nat.lt_of_succ_le,QK]
theorem Qy0{X:Cx}{d:Nat}(h:okD X d=true):d∉X.res:=by
 simp_all [okD,QQ,Q2g]
theorem Qaw{X:Cx}{d:Nat}(h:okD X d=true):Nat.blt d 100000=true:=by
 simp_all [okD,QQ]
structure Sb(β:Nat→Nat)(X:Cx)(G:GL)(D:List DF)(H:HL)(O:List TL)(a:Act)(w:World):Prop where
 sz:a.tmps.size=X.n
 df:a.defers=X.dfs
 fr:∀t∈X.res,a.tmps[t]?=X.a0.tmps[t]?
 pn:∀f,X.pin=some f→∀h∈H,β h.1=f h.1
 tm:∀p∈G,a.tmps[p.1]?=some (den β p.2)
 bel:Uz X.lent X.w.heap.size X.w w
 dat:Qkx (Je X.ok X.w.heap.size β H O w) w D
 obj:∀h∈H,w.heap[β h.1]?=some (.cells h.2.cs.toArray h.2.t (0,0))∧X.mine (β h.1)
 own:∀t∈O,t.p (Je X.ok X.w.heap.size β H O w) w∧∀g,t.blks g→X.mine g
 dHH:∀h∈H,∀h'∈H,h.1≠h'.1→β h.1≠β h'.1
 dHO:∀h∈H,∀t∈O,¬ t.blks (β h.1)
 dOO:O.Pairwise fun s t=>∀g,s.blks g→¬ t.blks g
section
variable {β:Nat→Nat} {X:Cx} {G:GL} {D:List DF} {H:HL} {O:List TL} {a:Act} {w w':World}
theorem Qmz{ok0:Ok}(h:w.heap.size≤w'.heap.size){B:Nat}(b o:Nat):Je ok0 B β H O w b o→Je ok0 B β H O w' b o :=
 fun⟨h1,h2,h3,h4⟩=>⟨h1,by omega,h3,h4⟩
theorem Vb{w:World}{g:Nat}{o:Obj}(h:w.heap[g]?=some o):g<w.heap.size:=by
 grind
theorem Sb.olt(h:Sb β X G D H O a w){t:TL}(ht:t∈O){g:Nat}(hg:t.blks g):g<w.heap.size:=t.lt (h.own t ht).1 g hg
theorem Sb.hlt(h:Sb β X G D H O a w){p:Nat×HB}(hp:p∈H):β p.1<w.heap.size:=Vb (h.obj p hp).1
theorem Sb.below(h:Sb β X G D H O a w)(hb:Below w.heap.size w w'):Sb β X G D H O a w' where
 sz:=h.sz
 df:=h.df
 fr:=h.fr
 pn:=h.pn
 tm:=h.tm
 bel:=h.bel.trans (Uz.of _ (hb.mono h.bel.size))
 dat:=(h.dat.evo ((Evo.of_below hb).mono fun b o hk=>hk.2.1)).weak (Qmz hb.size)
 obj:=fun o ho=>⟨by rw[hb.block _ (Vb (h.obj o ho).1),(h.obj o ho).1],(h.obj o ho).2⟩
 own:=fun t ht=>⟨t.weak (t.keep (h.own t ht).1 (fun g hg=>hb.block g (h.olt ht hg)) ((Evo.of_below hb).mono fun b o hk=>hk.2.1)) (Qmz hb.size),(h.own t ht).2⟩
 dHH:=h.dHH
 dHO:=h.dHO
 dOO:=h.dOO
theorem Sb.act{a':Act}{G':GL}(h:Sb β X G D H O a w)(hs:a'.tmps.size=a.tmps.size)(hd:a'.defers=a.defers)(hr:∀t∈X.res,a'.tmps[t]?=a.tmps[t]?)
  (hg:∀p∈G',a'.tmps[p.1]?=some (den β p.2)):Sb β X G' D H O a' w :=
 { h with sz:=hs.trans h.sz,df:=hd.trans h.df,fr:=fun t ht=>(hr t ht).trans (h.fr t ht),tm:=hg }
theorem Sb.put(h:Sb β X G D H O a w){t:Nat}(ht:okD X t=true)(x:AV):Sb β X (Qce G t x) D H O (a.put (some t) (den β x)) w:=by
 refine h.act (by simp[Act.put]) rfl (fun k hk=>?_) fun p hp=>?_
 ·have hne:t≠k:=fun e=>Qy0 ht (e▸hk)
  simp[Act.put,hne]
 simp only[Qce,QJ]at hp
 rcases hp with rfl | hp
 ·simp[Act.put,h.sz,Qcg ht]
 ·obtain⟨hp,hne⟩:=Jhw hp
  have hne':t≠p.1:=fun e=>hne e.symm
  simp[Act.put,hne',h.tm p hp]
end
end Gd

/- The quiet operations of a walk, evaluated by a function; its soundness. -/
namespace Gd
open Go Go.RowKit
set_option linter.unusedVariables false
set_option linter.unusedSimpArgs false
structure TE where
 t:TypeId
 d:TypeDesc
 z:Value
 size:Nat
 bytes:Nat
abbrev Tab:=List TE
def Q0(P:Program):Tab→Prop
 | []=>True
 | e::T=>(((P.info? e.t).map (fun i=>(i.zero,i.size,i.bytes))=some (some e.z,e.size,e.bytes)∧P.underlying e.t=some e.d)∧(P.stoodInHeld e.t||P.eqGuardType P.depth e.t)=false)∧Q0 P T
def Qk:Tab→TypeId→Option TE
 | [],_=>none
 | e::T,t=>bif Nat.beq e.t t then some e else Qk T t
theorem Jo{P:Program}{T:Tab}(h:Q0 P T){t:TypeId}{e:TE}(he:Qk T t=some e) :
  (P.info? t).map (fun i=>(i.zero,i.size,i.bytes))=some (some e.z,e.size,e.bytes)∧P.underlying t=some e.d:=by
 induction T with
 | nil=>simp[Qk]at he
 | cons x T ih =>
  simp only[Qk]at he
  cases hb:Nat.beq x.t t with
  | true=>rw[hb]at he; simp only[cond_true,Option.some.injEq]at he; subst he; have:=Nat.eq_of_beq_eq_true hb; subst this; exact h.1.1
  | false=>rw[hb]at he; exact ih h.2 he
theorem Q2h{P:Program}{T:Tab}(h:Q0 P T){t:TypeId}{e:TE}(he:Qk T t=some e):P.stoodInHeld t=false∧P.eqGuardType P.depth t=false:=by
 induction T with
 | nil=>simp[Qk]at he
 | cons x T ih =>
  simp only[Qk]at he
  cases hb:Nat.beq x.t t with
  | true=>rw[hb]at he; simp only[cond_true,Option.some.injEq]at he; subst he; have:=Nat.eq_of_beq_eq_true hb; subst this; simpa[JR]using h.1.2
  | false=>rw[hb]at he; exact ih h.2 he
theorem Hd{P:Program}{T:Tab}(h:Q0 P T){t:TypeId}{e:TE}(he:Qk T t=some e) :
  ∃i,P.info? t=some i∧i.zero=some e.z∧i.size=e.size∧i.bytes=e.bytes:=by
 have:=(Jo h he).1
 simp_all
def Gn:TypeDesc→Bool
 | .struct _ | .array _ _=>true
 | _=>false
section
variable {P:Program} {T:Tab} (hT:Q0 P T) (w:World)
include hT
theorem Qky{t:TypeId}{e:TE}(he:Qk T t=some e):∃i,(typeInfo t).run P w=.ok i w∧i.zero=some e.z∧i.size=e.size∧i.bytes=e.bytes:=by
 obtain⟨i,hi,h1,h2,h3⟩:=Hd hT he
 simp_all [typeInfo]
theorem Yg{t:TypeId}{e:TE}(he:Qk T t=some e):(Go.sizeOf t).run P w=.ok e.size w:=by
 obtain⟨i,hi,h1,h2,h3⟩:=Qky hT w he
 simp[Go.sizeOf,hi,h2]
theorem V1{t:TypeId}{e:TE}(he:Qk T t=some e):(zeroValue t).run P w=.ok e.z w:=by
 obtain⟨i,hi,h1,h2,h3⟩:=Qky hT w he
 simp[zeroValue,hi,h1]
theorem J2{t:TypeId}{e:TE}(he:Qk T t=some e):(underlying t).run P w=.ok e.d w :=
 run_underlying (Jo hT he).2 w
theorem Qv6{t:TypeId}{e:TE}(he:Qk T t=some e):(isAgg t).run P w=.ok (Gn e.d) w:=by
 simp only[isAgg,Sem.run_bind,J2 hT w he,Result.andThen_ok]
 cases e.d<;>rfl
theorem Qrl{t:TypeId}{e:TE}(he:Qk T t=some e)(cs:List Value)(off:Nat){v:Value}
  (hv:(if Gn e.d then some (.agg ((cs.drop off).take e.size).toArray)else cs[off]?)=some v):(part t cs.toArray off).run P w=.ok v w:=by
 simp only[part,Sem.run_bind,Qv6 hT w he,Result.andThen_ok]
 cases ha:Gn e.d with
 | true =>
  rw[ha]at hv
  simp only[if_true,Option.some.injEq]at hv
  subst hv
  simp[Yg hT w he,List.take_drop]
 | false =>
  rw[ha]at hv
  simp_all
theorem Qkz{t:TypeId}{e:TE}(he:Qk T t=some e)(b o:Nat)(cs:List Value)(hl:cs.length=e.size)(hone:Gn e.d=false→cs.length=1)
  (hc:∀(j:Nat) u,cs[j]?=some u→w.cell? ⟨b,o+j,none⟩=some u) :
  (loadVar t ⟨b,o,none⟩).run P w=.ok (if Gn e.d then .agg cs.toArray else cs.headD undef) w:=by
 simp only[loadVar,Sem.run_bind,Qv6 hT w he,Result.andThen_ok]
 cases ha:Gn e.d with
 | true =>
  simp only[if_true,Sem.run_bind,Yg hT w he,Result.andThen_ok,←hl]
  rw[run_loadCells_list w ⟨b,o,none⟩ cs (fun j v hj=>by rw[Addr.add_lit]; exact hc j v hj)]
  simp
 | false =>
  have h1:=hone ha
  match cs,h1 with
  | [c],_ =>
   have:=hc 0 c rfl
   simp_all
end
theorem My(β:Nat→Nat)(x:Value):den β (.v x)=x:=rfl
def gv(G:GL):Operand→Option AV
 | .tmp t=>Jv G t
 | .const v=>some (.v v)
 | .func f=>some (.v (.func (.func f) #[] #[]))
 | .global g=>some (.v (.pointer (some ⟨g,0,none⟩)))
def Q8a(op:BinOp)(k:IntKind)(a b:Int):Option Value :=
 match op with
 | .add=>some (.int k (k.wrap (a+b)))
 | .sub=>some (.int k (k.wrap (a - b)))
 | .mul=>some (.int k (k.wrap (a*b)))
 | .eql=>some (.bool (a==b))
 | .neq=>some (.bool (a != b))
 | .lss=>some (.bool (decide (a<b)))
 | .leq=>some (.bool (decide (a≤b)))
 | .gtr=>some (.bool (decide (a>b)))
 | .geq=>some (.bool (decide (a≥b)))
 | .and=>some (.int k (Go.bits .and k a b))
 | .or=>some (.int k (Go.bits .or k a b))
 | .xor=>some (.int k (Go.bits .xor k a b))
 | .andNot=>some (.int k (Go.bits .andNot k a b))
 | _=>none
def Qy1(op:BinOp)(k:IntKind)(a:Int):Int→Option Value
 | .ofNat (b+1)=>match op with
  | .quo=>some (.int k (k.wrap (a.tdiv (.ofNat (b+1)))))
  | .rem=>some (.int k (a.tmod (.ofNat (b+1))))
  | _=>none
 | _=>none
def Q8b(op:BinOp)(a b:Str):Option Value :=
 match op with
 | .eql=>some (.bool (a==b))
 | .neq=>some (.bool !(a==b))
 | .lss=>some (.bool (Op.bytesLess a b))
 | .leq=>some (.bool (Op.bytesLess a b||a==b))
 | .gtr=>some (.bool !(Op.bytesLess a b||a==b))
 | .geq=>some (.bool !(Op.bytesLess a b))
 | _=>none
def Qax:IntKind→IntKind→Bool
 | .i8,.i8 | .i16,.i16 | .i32,.i32 | .i64,.i64 | .u8,.u8 | .u16,.u16 | .u32,.u32 | .u64,.u64=>true
 | _,_=>false
theorem Io{a b:IntKind}(h:Qax a b=true):a=b:=by cases a<;>cases b<;>simp_all [Qax]
def Jpo:BinOp→Bool
 | .quo | .rem=>true
 | _=>false
def Qqx(T:Tab)(t:TypeId):Bool :=
 match Qk T t with
 | some ⟨_,.bool,_,_,_⟩=>true
 | _=>false
def Qrm(T:Tab)(op:BinOp)(t:TypeId)(x y:Value):Option Value :=
 match x,y with
 | .int k a,.int k' b=>bif Qax k k' then(bif Jpo op then Qy1 op k a b else Q8a op k a b)else none
 | .bool a,.bool b=>bif Qqx T t then(match op with
  | .eql=>some (.bool (a==b))
  | .neq=>some (.bool (a != b))
  | _=>none)else none
 | .string ⟨⟨a⟩⟩,.string ⟨⟨b⟩⟩=>Q8b op a b
 | _,_=>none
def Jhx(op:UnOp)(x:Value):Option Value :=
 match op,x with
 | .neg,.int k n=>some (.int k (k.wrap (0 - n)))
 | .not,.bool b=>some (.bool !b)
 | _,_=>none
def Jw9(c:Bool)(x y:Option AV):Option AV :=
 match x,y with
 | some (.v (.bool p)),some (.v (.bool q))=>some (.v (.bool (bif c then p else q)))
 | _,_=>match c with
  | true=>x
  | false=>y
def Qrn(T:Tab)(fs:Array Field)(f:Nat):Option Nat :=
 match fs[f]? with
 | some fd=>match Qk T fd.type with
  | some ⟨_,_,_,_+1,_⟩=>some fd.offset
  | _=>none
 | none=>none
def Qk0(T:Tab):List Field→Option (List (Nat×Nat))
 | []=>some []
 | f::fs=>match Qk T f.type,Qk0 T fs with
  | some e,some ps=>some ((f.offset,e.size)::ps)
  | _,_=>none
def evParts(G:GL):List (Nat×Operand)→Option (List (Nat×Value))
 | []=>some []
 | (i,x)::xs=>match gv G x,evParts G xs with
  | some (.v v),some vs=>some ((i,v)::vs)
  | _,_=>none
def Q2i(cs:List Value)(off:Nat)(vs:List Value):List Value:=cs.take off++vs++cs.drop (off+vs.length)
def Qu:Value→List Value
 | .agg ⟨cs⟩=>cs
 | v=>[v]
theorem Ua(v:Value):Qu v=v.cells.toList:=by cases v<;>rfl
def Sa(ps:Nat→Option (Nat×Nat))(cs:List Value):List (Nat×Value)→Option (List Value)
 | []=>some cs
 | (i,v)::rest=>match ps i with
  | none=>none
  | some (off,size) =>
   bif Nat.beq (Qu v).length size&&Nat.ble (off+(Qu v).length) cs.length then Sa ps (Q2i cs off (Qu v)) rest else none
section
variable {P:Program} {T:Tab} {β:Nat→Nat} {X:Cx} {G:GL} {D:List DF} {H:HL} {O:List TL} {a:Act} {w w':World}
theorem Sb.ev(h:Sb β X G D H O a w){x:Operand}{v:AV}(hx:gv G x=some v):a.eval x=den β v:=by
 cases x with
 | tmp t =>
  have:=h.tm _ (Qmy hx)
  simp_all [Act.eval]
 | const v=>simp[gv]at hx; subst hx; rfl
 | func f=>simp[gv]at hx; subst hx; rfl
 | global g=>simp[gv]at hx; subst hx; rfl
theorem Jd5{op:BinOp}{t:TypeId}{a b:Str}{v:Value}(h:Q8b op a b=some v):(binOp op t (.string ⟨⟨a⟩⟩) (.string ⟨⟨b⟩⟩))=(pure v:Sem Value):=by
 have ha:(ByteArray.mk ⟨a⟩).toList=a:=ByteArray.toList_mk a
 have hb:(ByteArray.mk ⟨b⟩).toList=b:=ByteArray.toList_mk b
 cases op<;>simp[Q8b]at h<;>subst h<;>simp[binOp,Op.stringOp,ha,hb]
theorem Jd6{op:BinOp}{t:TypeId}{k:IntKind}{a b:Int}{v:Value}(h:Q8a op k a b=some v):(binOp op t (.int k a) (.int k b))=(pure v:Sem Value):=by
 cases op<;>simp[Q8a]at h<;>subst h<;>simp[binOp,Op.intArith,Op.intCmp]<;>rfl
theorem Q8c{op:BinOp}{t:TypeId}{k:IntKind}{a b:Int}{v:Value}(h:Qy1 op k a b=some v):(binOp op t (.int k a) (.int k b))=(pure v:Sem Value):=by
 unfold Qy1 at h
 split at h
 ·rename_i m
  have hm:(Int.ofNat (m+1))≠0:=by grind
  cases op<;>first | (simp at h; done) | skip
  ·simp_all [Option.some.injEq,binOp_quo,Op.intDiv,if_neg]
  simp_all [Option.some.injEq,binOp_rem,Op.intDiv,if_neg]
 ·cases h
theorem Q8d(hT:Q0 P T){t:TypeId}(h:Qqx T t=true):P.underlying t=some .bool:=by
 unfold Qqx at h
 split at h
 ·rename_i he; exact(Jo hT he).2
 ·cases h
theorem Q8e{t:TypeId}(ht:P.underlying t=some .bool)(a b:Bool)(w:World):(Op.equal t (.bool a) (.bool b)).run P w=.ok (a==b) w:=by
 have h:∀d:Nat,(Op.equalIn (d+1) t (.bool a) (.bool b)).run P w=.ok (a==b) w:=fun d=>by
  simp[Op.equalIn,run_underlying ht]
 exact h 9999
theorem Jd7(hT:Q0 P T){op:BinOp}{t:TypeId}{x y v:Value}(h:Qrm T op t x y=some v)(w:World):(binOp op t x y).run P w=.ok v w:=by
 unfold Qrm at h
 split at h
 ·rename_i k a k' b
  cases hk:Qax k k' with
  | false=>rw[hk]at h; cases h
  | true =>
   rw[hk]at h
   have:=Io hk
   subst this
   simp only[cond_true]at h
   cases hd:Jpo op with
   | true=>rw[hd]at h; rw[Q8c h]; rfl
   | false=>rw[hd]at h; rw[Jd6 h]; rfl
 ·rename_i a b
  cases hb:Qqx T t with
  | false=>rw[hb]at h; cases h
  | true =>
   rw[hb]at h
   have hu:=Q8d hT hb
   cases op<;>simp at h<;>subst h<;>simp[binOp,Q8e hu]
   cases a<;>cases b<;>rfl
 ·rw[Jd5 h]; rfl
 ·cases h
theorem Jhy{op:UnOp}{x v:Value}(h:Jhx op x=some v)(w:World):(Op.unary op x).run P w=.ok v w:=by
 unfold Jhx at h
 split at h<;>simp at h<;>subst h<;>simp[Op.unary,Op.intArith]
theorem Qy2{op:BinOp}{t:TypeId}{x y:Value}{p q:Operand}{v:Value}(h:Qrm T op t x y=some v):eqGuard op t p q x y=pure ():=by
 unfold Qrm at h
 grind [eqGuard_at_int,eqGuard_at_bool,eqGuard_at_string]
theorem Q2j{fs:Array Field}{f k:Nat}(h:Qrn T fs f=some k):∃fd,fs[f]?=some fd∧fd.offset=k∧∃e,Qk T fd.type=some e∧e.size≠0:=by
 grind [Qrn]
theorem Jhz(l:List UInt8):(ByteArray.mk ⟨l⟩).size=l.length:=rfl
theorem Qro(hT:Q0 P T):∀{fs:List Field} {ps:List (Nat×Nat)},Qk0 T fs=some ps→fs.mapM (fun f=>(P.info? f.type).map fun i=>(f.offset,i.size))=some ps
 | [],ps,h=>by grind [Qk0]
 | f::fs,ps,h=>by
  simp only[Qk0]at h
  split at h
  ·rename_i e ps' he hp
   simp at h; subst h
   obtain⟨i,hi,_,hs,_⟩:=Hd hT he
   simp[ZD,hi,hs,Qro hT hp]
  ·cases h
theorem Qjn(h:Sb β X G D H O a w):∀{xs:List (Nat×Operand)} {vs:List (Nat×Value)},evParts G xs=some vs→xs.map (fun p=>(p.1,a.eval p.2))=vs
 | [],vs,hv=>by grind [evParts]
 | (i,x)::xs,vs,hv=>by
  simp only[evParts]at hv
  split at hv
  ·rename_i v us h1 h2
   simp at hv; subst hv
   simp[h.ev h1,My,Qjn h h2]
  ·cases hv
theorem Jng(cs:List Value)(off:Nat)(vs:List Value)(hle:off+vs.length≤cs.length) :
  (vs.toArray.zipIdx.foldl (fun cs (c,j)=>cs.setIfInBounds (off+j) c) cs.toArray)=(Q2i cs off vs).toArray:=by
 have key:∀(vs:List Value) (k:Nat) (cs:List Value),off+k+vs.length≤cs.length →
   (vs.zipIdx k).foldl (fun(cs:Array Value) (p:Value×Nat)=>cs.setIfInBounds (off+p.2) p.1) cs.toArray=(cs.take (off+k)++vs++cs.drop (off+k+vs.length)).toArray:=by
  intro vs
  induction vs with
  | nil=>simp_all
  | cons v vs ih =>
   intro k cs hl
   simp only[List.zipIdx_cons,List.foldl_cons,List.length_cons]at hl ⊢
   have hlt:off+k<cs.length:=by omega
   rw[List.setIfInBounds_toArray,ih (k+1) _ (by simp; omega)]
   congr 1
   have e1:off+(k+1)=off+k+1:=by omega
   rw[e1,List.take_set,List.drop_set_of_lt (by omega)]
   rw[List.take_succ_eq_append_getElem hlt,List.set_append_right _ _ (by simp; omega)]
   simp only[List.length_take,Nat.min_eq_left (Nat.le_of_lt hlt),Nat.sub_self,List.set_cons_zero]
   grind
 have:=key vs 0 cs (by simpa using hle)
 simp_all [JP,Array.foldl_toList,Q2i]
theorem Qay(ps:Nat→Option (Nat×Nat)):∀{vs:List (Nat×Value)} {cs cs':List Value},Sa ps cs vs=some cs'→Instr.fill ps cs.toArray vs=some cs'.toArray
 | [],cs,cs',h=>by simp[Sa]at h; subst h; rfl
 | (i,v)::rest,cs,cs',h=>by
  simp only[Sa]at h
  split at h
  ·cases h
  ·rename_i off size hp
   rw[Ua]at h
   cases hb:(Nat.beq v.cells.toList.length size&&Nat.ble (off+v.cells.toList.length) cs.length)with
   | false=>rw[hb]at h; cases h
   | true =>
    rw[hb]at h
    simp only[cond_true]at h
    simp only[QQ]at hb
    have h1:=Nat.eq_of_beq_eq_true hb.1
    have h2:=QK hb.2
    have:=Qay ps h
    simp only[Array.length_toList]at h1 h2
    unfold Instr.fill
    simp only[hp]
    rw[if_neg (by simp; omega)]
    have hl:=Jng cs off v.cells.toList (by simpa using h2)
    simp_all
end
end Gd

/- Sequences of quiet operations, new objects and stores into them. -/
namespace Gd
open Go Go.RowKit
set_option linter.unusedVariables false
set_option linter.unusedSimpArgs false
def Dh(ops:Array Oper)(G:GL)(o:Oper):Option Bool :=
 match o.guard with
 | none=>some true
 | some (j,want)=>match ops[j]? with
  | some p=>match p.dst with
   | some t=>match Jv G t with
    | some (.v (.bool b))=>some (b==want)
    | some (.v (.tuple _))=>some false
    | _=>none
   | none=>none
  | none=>none
section
variable {P:Program} {T:Tab} {β:Nat→Nat} {X:Cx} {G:GL} {D:List DF} {H:HL} {O:List TL} {a:Act} {w w':World}
theorem Xm(h:Sb β X G D H O a w){ops:Array Oper}{o:Oper}{g:Bool}(hg:Dh ops G o=some g):Region.wanted o (yielded ops a.tmps)=g:=by
 unfold Dh at hg
 unfold Region.wanted
 split at hg
 ·grind
 ·rename_i j want hn
  rw[hn]
  split at hg
  ·rename_i p hp
   split at hg
   ·rename_i t ht
    split at hg
    ·rename_i b hb
     simp at hg
     have:=h.tm _ (Qmy hb)
     simp_all [My,yielded]
    ·rename_i hb
     simp at hg
     have:=h.tm _ (Qmy hb)
     grind [My,yielded]
    ·cases hg
   ·cases hg
  ·cases hg
theorem Jk{ops:Array Oper}{Q:Exit→Act→World→Prop}{rest:List Oper}{o:Oper}(hw:Region.wanted o (yielded ops a.tmps)=true)
  (h:o.wp P a w (wpList P ops Q rest) Q):wpList P ops Q (o::rest) a w:=by
 simp_all [wpList,if_pos]
theorem Yl{o:Oper}{next:Act→World→Prop}{Q:Exit→Act→World→Prop}{v:Value}(hr:(execOp a.eval o).run P w=.ok (.value v) w')(h:next (a.put o.dst v) w') :
  o.wp P a w next Q:=by
 unfold Oper.wp; rw[hr]; exact h
end
end Gd

/- Steps of a walk that read data, call, append. -/
namespace Gd
open Go Go.RowKit
set_option linter.unusedVariables false
set_option linter.unusedSimpArgs false
section
variable {P:Program} {T:Tab} {β:Nat→Nat} {X:Cx} {G:GL} {D:List DF} {H:HL} {O:List TL} {a:Act} {w w':World}
theorem Sb.d(h:Sb β X G D H O a w)(i:Nat){d:DF}(hi:D[i]?=some d):d.p (Je X.ok X.w.heap.size β H O w) w:=h.dat.get hi
theorem Sb.addD(h:Sb β X G D H O a w){d:DF}(hd:d.p (Je X.ok X.w.heap.size β H O w) w):Sb β X G (d::D) H O a w:={ h with dat:=⟨hd,h.dat⟩ }
section steps
variable {ops:Array Oper} {Q:Exit→Act→World→Prop} {rest:List Oper} {o:Oper}
theorem Jh0{τ:Type}{r:RT τ}{ok:Ok}{w:World}{xs:List τ}{A:Option Addr}{m c:Nat}(h:Qv5 r ok w xs (.slice A m c)){i:Nat}{x:τ}(hx:xs[i]?=some x) :
  ∃b o,A=some ⟨b,o,none⟩∧i<m∧Qrj r ok w x (.pointer (some ⟨b,o+i*r.size,none⟩)):=by
 obtain⟨A',m',c',hv,hl,hc,hn⟩:=h
 injection hv with e1 e2 e3
 subst e1; subst e2; subst e3
 have hi:i<m:=by rw[←hl]; grind
 obtain⟨b,o,hA,hcs⟩:=hn (by omega)
 obtain⟨cs,hr,ha⟩:=hcs i x hx
 exact⟨b,o,hA,hi,b,_,cs,rfl,hr,ha⟩
def okx(ok:Ok)(w w':World):Ok:=fun b o=>ok b o∨(w.heap.size≤b∧b<w'.heap.size)
def Qy3(L:List Nat)(w:World)(R:Value→World→Prop):Ending→World→Prop:=fun e w'=>∃v,e=.returned v∧R v w'∧Uz L w.heap.size w w'
abbrev Ret(w:World)(R:Value→World→Prop):Ending→World→Prop:=Qy3 [] w R
def Runs(P:Program)(f:FuncId):Prop:=∃fn,P.funcs[f]?=some fn∧fn.name ≠ "runtime.NumGoroutine" ∧ fn.body.isNone=false
theorem Qk1{f:FuncId}(hf:Runs P f)(args:Array Value)(w:World):(callFunc f args).run P w=.ok (.enter f args) w:=by
 obtain⟨fn,h1,h2,h3⟩:=hf
 have h2':(fn.name == "runtime.NumGoroutine")=false:=by simpa using h2
 obtain⟨c,hc⟩:∃c,fn.body=some c:=by
  cases hb:fn.body with
  | none=>rw[hb]at h3; cases h3
  | some c=>exact⟨c,rfl⟩
 simp_all [callFunc]
end steps
theorem Qch{c:Code}{Q:Exit→Act→World→Prop}(I:Nat→Act→World→Prop)(m:Nat)(h0:I m a w)
  (round:∀m a w,I m a w→c.wp P (Exit.then (fun a' w'=>∃k,k<m∧I k a' w') Q) a w):(Code.loop c).wp P Q a w:=by
 intro b k cs
 have key:∀m a w,I m a w→∃e a' w',Q e a' w'∧Arrives P (lone (b.at a (.code c::.inLoop c::k)) cs w) b k cs e a' w':=by
  intro m
  induction m using Nat.strongRecOn with
  | _ m ih =>
   intro a w hI
   obtain⟨e,a₁,w₁,hq,harr⟩:=round m a w hI b (.inLoop c::k) cs
   cases e with
   | normal =>
    obtain⟨k',hlt,hI₁⟩:=hq
    obtain⟨e₂,a₂,w₂,hq₂,harr₂⟩:=ih k' hlt a₁ w₁ hI₁
    exact⟨e₂,a₂,w₂,hq₂,.of_steps (Steps.trans harr (.one step_inLoop)) harr₂⟩
   | exit id=>exact⟨_,a₁,w₁,hq,.pass (x:=.inLoop c) rfl (fun _ _=>.inl (by simp)) harr⟩
   | goto l=>exact⟨_,a₁,w₁,hq,.pass (x:=.inLoop c) rfl (fun _ _=>.inl (by simp)) harr⟩
   | ret=>exact⟨_,a₁,w₁,hq,.pass (x:=.inLoop c) rfl (fun _ _=>.inl (by simp)) harr⟩
   | panic ch=>exact⟨_,a₁,w₁,hq,.pass (x:=.inLoop c) rfl (fun _ _=>.inl (by simp)) harr⟩
   | outgrown=>exact⟨_,a₁,w₁,hq,.pass (x:=.inLoop c) rfl (fun _ _=>.inl (by simp)) harr⟩
 obtain⟨e,a',w',hq,harr⟩:=key m a w h0
 exact⟨e,a',w',hq,.of_steps (.one step_loop) harr⟩
def Q2k:List Value→Nat→GL
 | [],_=>[]
 | v::vs,i=>(i,.v v)::Q2k vs (i+1)
theorem Q2l{vs:List Value}{i:Nat}{p:Nat×AV}(h:p∈Q2k vs i):∃j v,p=(i+j,.v v)∧vs[j]?=some v:=by
 induction vs generalizing i with
 | nil=>simp[Q2k]at h
 | cons v vs ih =>
  simp only[Q2k,QJ]at h
  rcases h with rfl | h
  ·exact⟨0,v,rfl,rfl⟩
  ·obtain⟨j,u,rfl,hu⟩:=ih h
   exact⟨j+1,u,by rw[Nat.add_assoc,XI 1 j],hu⟩
end
end Gd
namespace Gd
open Go Go.RowKit
section
variable {P:Program} {T:Tab} {β:Nat→Nat} {X:Cx} {G:GL} {D:List DF} {H:HL} {O:List TL} {a:Act} {w w':World}
end
def idx{α:Type}(xs:List α)(i:Int):Option α:=if 0≤i then xs[i.toNat]? else none
theorem He{α:Type}{xs:List α}{i:Int}{x:α}(h:idx xs i=some x):0≤i∧xs[i.toNat]?=some x:=by
 grind [idx]
def Be(s:Str)(i:Int):Option Int:=(idx s i).map fun c=>(c.toNat:Int)
theorem Jnh{s:Str}{i:Int}{x:Int}(h:Be s i=some x):0≤i∧∃c,s[i.toNat]?=some c∧x=(c.toNat:Int):=by
 obtain⟨c,hc,rfl⟩:=XG.1 h
 exact⟨(He hc).1,c,(He hc).2,rfl⟩
theorem Yq{α β:Type}{o:Option α}{f:α→Option β}{r:β}(h:o.bind f=some r):∃x,o=some x∧f x=some r:=Option.bind_eq_some_iff.1 h
theorem Jpp{τ:Type}{r:RT τ}{ok:Ok}{w:World}:isV (rSl r) ok w [] (.slice none 0 0):=U9.2 ⟨none,0,0,rfl,rfl,QY _,fun h=>absurd h (by omega)⟩
theorem Qm0{τ:Type}{r:RT τ}{ok:Ok}{w:World}{xs:List τ}{v:Value}(h:isV (rSl r) ok w xs v):∃A c,v=.slice A xs.length c∧isV (rSl r) ok w xs (.slice A xs.length c):=by
 obtain⟨A,n,c,rfl,hl,r⟩:=U9.1 h
 grind
end Gd

/- More steps: elements, appends, new slices. -/
namespace Gd
open Go Go.RowKit
set_option linter.unusedVariables false
set_option linter.unusedSimpArgs false
section
variable {P:Program} {T:Tab} {β:Nat→Nat} {X:Cx} {G:GL} {D:List DF} {H:HL} {O:List TL} {a:Act} {w w':World}
variable {ops:Array Oper} {Q:Exit→Act→World→Prop} {rest:List Oper} {o:Oper}
end
end Gd
namespace Gd
open Go Go.RowKit
def R1{τ:Type}(r:RT τ)(ok:Ok)(w:World)(y:τ):Value→World→Prop:=fun v w'=>isV r (okx ok w w') w' y v
end Gd
namespace Gd
open Go Go.RowKit
section
variable {P:Program} {T:Tab} {β:Nat→Nat} {X:Cx} {G:GL} {D:List DF} {H:HL} {O:List TL} {a:Act} {w w':World}
variable {ops:Array Oper} {Q:Exit→Act→World→Prop} {rest:List Oper} {o:Oper}
end
end Gd

/- New slices, appends, parts of slices and strings. -/
namespace Gd
open Go Go.RowKit Go.Lib
set_option linter.unusedVariables false
set_option linter.unusedSimpArgs false
def Qvd{τ:Type}(r:RT τ)(ok:Ok)(w:World):List τ→List Value→Prop
 | [],[]=>True
 | x::xs,v::vs=>isV r ok w x v∧Qvd r ok w xs vs
 | _,_=>False
theorem Q8f{τ:Type}{r:RT τ}{ok:Ok}{w:World}{x:τ}{cs:List Value}(h:r.rep ok w x cs):Qu (r.val cs)=cs:=by
 unfold RT.val
 cases ha:r.agg with
 | true=>rfl
 | false =>
  have h1:=r.len h
  rw[r.one ha]at h1
  match cs,h1 with
  | [c],_ =>
   have:=r.flat h c (by simp)
   cases c<;>first | rfl | grind [Value.oneCell']
theorem Di{τ:Type}{r:RT τ}{ok:Ok}{w:World}{x:τ}{v:Value}(h:isV r ok w x v):r.rep ok w x (Qu v):=by
 obtain⟨cs,hr,rfl⟩:=h
 rw[Q8f hr]; exact hr
theorem Q2m{τ:Type}{r:RT τ}{ok:Ok}{w:World}:∀{xs:List τ} {vs:List Value},Qvd r ok w xs vs→(vs.flatMap Qu).length=xs.length*r.size∧vs.length=xs.length
 | [],[],_=>by simp
 | x::xs,v::vs,h=>by
  have h1:=r.len (Di h.1)
  have h2:=Q2m h.2
  grind
theorem Ja2{τ:Type}{r:RT τ}{ok:Ok}{w:World}:∀{xs:List τ} {vs:List Value},Qvd r ok w xs vs→∀(i:Nat) (x:τ),xs[i]?=some x →
  ∃cs,r.rep ok w x cs∧∀(j:Nat) u,cs[j]?=some u→(vs.flatMap Qu)[i*r.size+j]?=some u
 | [],[],_,i,x,hx=>by simp at hx
 | y::ys,v::vs,h,i,x,hx=>by
  have h1:=r.len (Di h.1)
  cases i with
  | zero =>
   simp at hx; subst hx
   refine⟨Qu v,Di h.1,fun j u hu=>?_⟩
   have hj:=(List.getElem?_eq_some_iff.1 hu).1
   grind
  | succ i =>
   simp at hx
   obtain⟨cs,hr,hc⟩:=Ja2 h.2 i x hx
   grind
section
variable {P:Program} {T:Tab} {β:Nat→Nat} {X:Cx} {G:GL} {D:List DF} {H:HL} {O:List TL} {a:Act} {w w':World}
variable {ops:Array Oper} {Q:Exit→Act→World→Prop} {rest:List Oper}
theorem Sb.fresh(h:Sb β X G D H O a w){τ:Type}{r:RT τ}{xs:List τ}{cs:List Value}{tail:List Value}(e:TypeId)(c:Nat)
  (hc:∀(i:Nat) (x:τ),xs[i]?=some x→∃ds,r.rep (Je X.ok X.w.heap.size β H O w) w x ds∧∀(j:Nat) u,ds[j]?=some u→cs[i*r.size+j]?=some u)
  (hl:xs.length≤c) (w':World) (hb:Below w.heap.size w w') {fr:Nat×Nat} (hw':w'.heap[w.heap.size]?=some (.cells (cs++tail).toArray e fr)) :
  isV (rSl r) (Je X.ok X.w.heap.size β H O w') w' xs (.slice (some ⟨w.heap.size,0,none⟩) xs.length c):=by
 have hb':Evo (Je X.ok X.w.heap.size β H O w) w w':=(Evo.of_below hb).mono fun _ _ hk=>hk.2.1
 have hlt:w.heap.size<w'.heap.size:=Vb hw'
 refine U9.2 ⟨_,_,_,rfl,rfl,hl,fun _=>⟨_,0,rfl,fun i x hx=>?_⟩⟩
 obtain⟨ds,hr,hd⟩:=hc i x hx
 refine⟨ds,r.weak (r.evo hr hb') (Qmz hb.size),fun j u hu=>⟨⟨.inr h.bel.size,hlt,fun p hp=>?_,fun t ht hcv=>?_⟩,?_⟩⟩
 ·exact ZS (h.hlt hp)
 ·exact Nat.lt_irrefl _ (h.olt ht (t.cb hcv))
 ·have:=hd j u hu
  have hj:=(List.getElem?_eq_some_iff.1 this).1
  simp only[World.cell?,hw',QV,Option.isSome_none,JG,if_false]
  rw[List.getElem?_toArray,JW hj]
  exact this
def Qe9(size:Nat):Nat→Option (Nat×Nat):=fun i=>some (i*size,size)
def Zq(z:List Value)(m:Nat):List Value:=(List.range m).map fun j=>z.getD (j % z.length) undef
theorem Qpu(hT:Q0 P T)(h:Sb β X G D H O a w){t:TypeId}{len:Nat}{parts:List (Nat×Operand)}{d:Nat}{ps:String}{af:Array Edge}{ty:TypeId}{gd:Option (Nat×Bool)}
  (hg:Dh ops G ⟨some d,.buildSlice t len ⟨parts⟩,ty,ps,af,gd⟩=some true) (hlt:okD X d=true)
  {τ:Type} {r:RT τ} {xs:List τ} {vs:List Value} {pvs:List (Nat×Value)} (hpv:evParts G parts=some pvs)
  {e:TypeId} {te ee:TE} (ht:Qk T t=some te) (htd:te.d=.slice e) (he:Qk T e=some ee) (hs:ee.size=r.size) (hxl:xs.length=len)
  (hsm:Nat.ble (len*ee.size) 16777216=true) (hps:Nat.ble 1 (len*ee.size)=true) (hz:Nat.beq (Qu ee.z).length ee.size=true)
  (hfill:Sa (Qe9 ee.size) (Zq (Qu ee.z) (len*ee.size)) pvs=some (vs.flatMap Qu))
  (hv:Qvd r (Je X.ok X.w.heap.size β H O w) w xs vs)
  (hk:∀A c a' w',isV (rSl r) (Je X.ok X.w.heap.size β H O w') w' xs (.slice A xs.length c)→Sb β X (Qce G d (.v (.slice A xs.length c))) D H O a' w'→wpList P ops Q rest a' w') :
  wpList P ops Q (⟨some d,.buildSlice t len ⟨parts⟩,ty,ps,af,gd⟩::rest) a w:=by
 have hrun:(execOp a.eval ⟨some d,.buildSlice t len ⟨parts⟩,ty,ps,af,gd⟩).run P w=.ok (.value (.slice (some ⟨w.heap.size,0,none⟩) xs.length len)) (w.alloc (.cells (vs.flatMap Qu).toArray e)):=by
  have hev:=Qjn h hpv
  have hm:(Array.mk parts).map (fun(x:Nat×Operand)=>(x.1,a.eval x.2))=⟨pvs⟩:=by rw[←hev]; simp
  have hun:(underlying t).run P w=.ok (.slice e) w:=by rw[J2 hT w ht,htd]
  have h16:¬ len*ee.size>16777216:=by have:=QK hsm; omega
  have hzl:=Nat.eq_of_beq_eq_true hz
  have hf:Instr.fill (fun i=>some (i*ee.size,ee.size)) (Zq (Qu ee.z) (len*ee.size)).toArray pvs=some (vs.flatMap Qu).toArray:=Qay _ hfill
  have hzz:(Array.range (len*ee.size)).map (fun x=>ee.z.cells[x % ee.z.cells.size]!)=(Zq (Qu ee.z) (len*ee.size)).toArray:=by
   rw[Ua]
   grind [Zq,Array.ext,Nat.eq_zero_or_pos,Ua,Nat.mod_lt]
  unfold execOp
  simp only[Instr.buildSlice,Sem.run_bind,hun,Yg hT w he,Result.andThen_ok,hm]
  have h0:¬ len*ee.size=0:=by have:=QK hps; omega
  have h00:len≠0:=fun e=>h0 (by rw[e,XL])
  have h01:ee.size≠0:=fun e=>h0 (by rw[e,Nat.mul_zero])
  simp[h16,h00,h01,V1 hT w he,hzz,hf,newRow,hxl]
  grind
 refine Jk (Xm h hg) (Yl hrun ?_)
 have hb:Below w.heap.size w (w.alloc (.cells (vs.flatMap Qu).toArray e)):=(Below.refl _ _).alloc (QY _) _
 refine hk _ len _ _ ?_ ((h.below hb).put hlt (.v _))
 exact h.fresh (tail:=[]) e len (Ja2 hv) (by omega) _ hb (by rw[QH]; exact heap_alloc_new w _)
def app{α:Type}(bytes:Nat)(xs ys:List α):Option (List α):=if(xs.length+ys.length)*bytes≤140737488355328 then some (xs++ys)else none
theorem Qm1{α:Type}{bytes:Nat}{xs ys zs:List α}(h:app bytes xs ys=some zs):(xs.length+ys.length)*bytes≤140737488355328∧zs=xs++ys:=by
 grind [app,Option.some.inj]
theorem Oi:maxLen=9223372036854775807:=rfl
theorem Qm2(t ty e:TypeId)(i:TypeInfo)(ht:P.underlying t=some (.slice e))(hi:P.info? e=some i)
  (g sLen sCap:Nat) (cur:Array Value) (fz:Nat×Nat) (hg:w.heap[g]?=some (.cells cur e fz)) (hfz:Qyz fz cur.size)
  (a:Addr) (m c:Nat) (news:List Value) (hl:news.length=m*i.size) (hnews:∀j u,news[j]?=some u→w.cell? (a.add j)=some u) (h1:∀u∈news,u.oneCell'=true)
  (hroom:sLen+m≤sCap) (hfit:sLen*i.size+news.length≤cur.size) :
  (Builtin.append_ #[t,t] ty #[.slice (some ⟨g,0,none⟩) sLen sCap,.slice (some a) m c]).run P w =
   .ok (.slice (some ⟨g,0,none⟩) (sLen+m) sCap) (w.setRow g (cur.toList.take (sLen*i.size)++news++cur.toList.drop (sLen*i.size+news.length)).toArray):=by
 have hf:=run_firstCells_some (P:=P) w i.size m a m c news hl hnews
 have hst:=Zp P g (sLen*i.size) e fz news 0 cur w hg hfz (by grind) h1
 simp only[JP]at hst
 simp[Builtin.append_,run_underlying ht,Go.sizeOf,typeInfo,hi,Builtin.lenOf,hroom,hf,Addr.add_lit,hst]
theorem Qfa(t u ty e:TypeId)(i:TypeInfo)(ht:P.underlying t=some (.slice e))(hu:P.underlying u=some .string)(hi:P.info? e=some i)(hs1:i.size=1)
  (g sLen sCap:Nat) (cur:Array Value) (fz:Nat×Nat) (hg:w.heap[g]?=some (.cells cur e fz)) (hfz:Qyz fz cur.size) (s:ByteArray)
  (hroom:sLen+s.size≤sCap) (hfit:sLen+s.size≤cur.size) :
  (Builtin.append_ #[t,u] ty #[.slice (some ⟨g,0,none⟩) sLen sCap,.string s]).run P w =
   .ok (.slice (some ⟨g,0,none⟩) (sLen+s.size) sCap) (w.setRow g (cur.toList.take sLen++strCells s++cur.toList.drop (sLen+s.size)).toArray):=by
 have hf:=run_firstCells_string (P:=P) w 1 s
 have hst:=Zp P g sLen e fz (strCells s) 0 cur w hg hfz (by simpa[strCells_length]using hfit) (strCells_oneCell s)
 simp only[JP,strCells_length]at hst
 simp[Builtin.append_,run_underlying ht,run_underlying hu,Go.sizeOf,typeInfo,hi,hs1,Builtin.lenOf,hroom,hf,Addr.add_lit,hst]
theorem Qfb{base:Nat}{t u ty e:TypeId}{i:TypeInfo}(ht:P.underlying t=some (.slice e))(hu:P.underlying u=some .string)(hi:P.info? e=some i)(hz:i.zero=some (.int .u8 0))
  (hsize:i.size=1) (hby:i.bytes=1) {v:Value} {n:Nat} {xs:List Value} (hown:w.ownsRowS base e 1 v n xs) (s:ByteArray) (hbytes:n+s.size≤140737488355328) (hbase:base≤w.heap.size) :
  ∃v' w',(Builtin.append_ #[t,u] ty #[v,.string s]).run P w=.ok v' w'∧w'.ownsRowS base e 1 v' (n+s.size) (xs++strCells s)∧w.grownBy w' v.ownBlock ∧
   ((v'.ownBlock=v.ownBlock)∨(v'.ownBlock=some w.heap.size∧Below w.heap.size w w')):=by
 have h63:n+s.size≤maxLen:=by rw[Oi]; omega
 have hxl:xs.length=n:=by simpa using hown.1
 have hlen:(xs++strCells s).length=(n+s.size)*1:=by rw[List.length_append,hxl,strCells_length,XB]
 have grown:∀(old:Nat),old<n+s.size →
   (w.drew.alloc (.cells (xs.toArray++(strCells s).toArray++Builtin.zeroCells (Value.int .u8 0).cells (grownCap w (n+s.size) old e - (n+s.size))) e)).ownsRowS base e 1
    (.slice (some ⟨w.heap.size,0,none⟩) (n+s.size) (grownCap w (n+s.size) old e)) (n+s.size) (xs++strCells s) ∧
   Below w.heap.size w (w.drew.alloc (.cells (xs.toArray++(strCells s).toArray++Builtin.zeroCells (Value.int .u8 0).cells (grownCap w (n+s.size) old e - (n+s.size))) e)):=by
  intro old ho
  have hge:=grownCap_ge w (n+s.size) old e
  have hcm:grownCap w (n+s.size) old e≤maxLen:=grownCap_le_maxLen w (n+s.size) old e h63
  refine⟨⟨hlen,.inr ⟨w.heap.size,_,_,(0,0),rfl,hbase,heap_alloc_new w.drew _,.inl rfl,hge,hcm,?_,?_⟩⟩,((Below.refl _ _).drew.alloc (QY _) _)⟩
  ·simp_all [Nat.le_of_eq,Eq.symm,ZJ,JC,size_zeroCells,Value.cells]
  grind
 rcases hown.2 with⟨rfl,rfl⟩ | ⟨g,cap,cur,fz,rfl,hbg,hg,hfz,hnc,hcm,hcs,htake⟩
 ·have hx0:xs=[]:=QE hxl
  subst hx0
  by_cases hs0:s.size=0
  ·refine⟨.slice none 0 0,w,?_,⟨hlen,.inl ⟨rfl,by omega⟩⟩,⟨rfl,rfl,rfl,QY _,fun _ _ _=>rfl⟩,.inl rfl⟩
   simp[Builtin.append_,run_underlying ht,run_underlying hu,Go.sizeOf,typeInfo,hi,Builtin.lenOf,hs0,Builtin.firstCells]
  ·have hr:=run_append_nil_string (P:=P) w t u ty e i (.int .u8 0) ht hu hi hz s (by omega) (by omega) (by rw[hby]; omega)
   have e0:s.data.map (fun b=>Value.int .u8 (b.toNat:Int))=(strCells s).toArray:=by apply Array.ext'; simp[strCells]
   rw[e0]at hr
   obtain⟨g1,g2⟩:=grown 0 (by omega)
   simp only[QV,QF,Array.empty_append]at g1 g2 ⊢
   exact⟨_,_,hr,g1,⟨g2.os,g2.tape,g2.output,g2.size,fun b hb _=>g2.block b hb⟩,.inr ⟨rfl,g2⟩⟩
 ·by_cases hroom:n+s.size≤cap
  ·have hcs':cap≤cur.size:=by simpa using hcs
   have hr:=Qfa (P:=P) (w:=w) t u ty e i ht hu hi hsize g n cap cur fz hg hfz s hroom (by omega)
   have hsz:(cur.toList.take n++strCells s++cur.toList.drop (n+s.size)).toArray.size=cur.size:=by
    grind
   refine⟨_,_,hr,⟨hlen,.inr ⟨g,cap,_,fz,rfl,hbg,setRow_heap w g cur _ e _ hg,by rw[hsz]; exact hfz,hroom,hcm,by rw[hsz]; exact hcs,?_⟩⟩,⟨rfl,rfl,rfl,by simp,fun b _ hb=>setRow_other w g b _ (fun e=>hb (by simp[Value.ownBlock,e]))⟩,.inl rfl⟩
   grind
  ·have holds:∀j u,xs[j]?=some u→w.cell? ((⟨g,0,none⟩:Addr).add j)=some u:=hown.cells (g:=g) rfl
   have hr:=run_append_grow_string (P:=P) w t u ty e i (.int .u8 0) ht hu hi hz ⟨g,0,none⟩ n cap xs (by rw[hsize]; simpa using hxl) holds s (by omega) (by omega) (by rw[hby]; exact growslice_fits (by omega) (by omega))
   obtain⟨g1,g2⟩:=grown cap (by omega)
   exact⟨_,_,hr,g1,⟨g2.os,g2.tape,g2.output,g2.size,fun b hb _=>g2.block b hb⟩,.inr ⟨rfl,g2⟩⟩
theorem Qjo(hT:Q0 P T){base:Nat}{t ty e:TypeId}{te ee:TE}(ht:Qk T t=some te)(htd:te.d=.slice e)(he:Qk T e=some ee)
  (hz:(Qu ee.z).length=ee.size) (hsz:0<ee.size) (hby:0<ee.bytes) {v:Value} {m:Nat} {xs:List Value} (hown:w.ownsRowS base e ee.size v m xs) (hbase:base≤w.heap.size)
  {A:Option Addr} {k c:Nat} {news:List Value} (hl:news.length=k*ee.size) (hA:A=none→k=0) (hnews:∀ad,A=some ad→∀j u,news[j]?=some u→w.cell? (ad.add j)=some u)
  (h1:∀u∈news,u.oneCell'=true) (hbytes:(m+k)*ee.bytes≤140737488355328) :
  ∃v' w',(Builtin.append_ ⟨[t,t]⟩ ty ⟨[v,.slice A k c]⟩).run P w=.ok v' w'∧w'.ownsRowS base e ee.size v' (m+k) (xs++news)∧w.grownBy w' v.ownBlock ∧
   ((v'.ownBlock=v.ownBlock)∨(v'.ownBlock=some w.heap.size∧Below w.heap.size w w')):=by
 have hu:P.underlying t=some (.slice e):=by rw[(Jo hT ht).2,htd]
 obtain⟨i,hi,hz',hs',hb'⟩:=Hd hT he
 have hzs:ee.z.cells.size=ee.size:=by rw[←hz,Ua]; simp
 have hmk:m+k≤140737488355328:=QW (XU _ hby) hbytes
 rw[←hs']at hl hown hsz hzs ⊢
 rw[←hb']at hbytes
 have hlen:(xs++news).length=(m+k)*i.size:=by rw[List.length_append,hown.1,hl,Nat.add_mul]
 cases A with
 | none =>
  have hk:=hA rfl
  subst hk
  have hn:news=[]:=QE (by simpa using hl)
  subst hn
  refine⟨v,w,?_,by grind,⟨rfl,rfl,rfl,QY _,fun _ _ _=>rfl⟩,.inl rfl⟩
  rcases hown.2 with⟨rfl,rfl⟩ | ⟨g,cap,cur,fz,rfl,_,_,_,hnc,_⟩
  ·simp[Builtin.append_,run_underlying hu,Go.sizeOf,typeInfo,hi,Builtin.lenOf,Builtin.firstCells]
  ·simp[Builtin.append_,run_underlying hu,Go.sizeOf,typeInfo,hi,Builtin.lenOf,Builtin.firstCells,hnc,storeCells]
 | some ad =>
  have hn:=hnews ad rfl
  have grown:∀old:Nat,old<m+k →
    (w.drew.alloc (.cells (xs.toArray++news.toArray++Builtin.zeroCells ee.z.cells (grownCap w (m+k) old e - (m+k))) e)).ownsRowS base e i.size
     (.slice (some ⟨w.heap.size,0,none⟩) (m+k) (grownCap w (m+k) old e)) (m+k) (xs++news) ∧
    Below w.heap.size w (w.drew.alloc (.cells (xs.toArray++news.toArray++Builtin.zeroCells ee.z.cells (grownCap w (m+k) old e - (m+k))) e)):=by
   intro old ho
   have hge:=grownCap_ge w (m+k) old e
   have hcm:grownCap w (m+k) old e≤maxLen:=grownCap_le_maxLen w (m+k) old e (by rw[Oi]; omega)
   refine⟨⟨hlen,.inr ⟨w.heap.size,_,_,(0,0),rfl,hbase,heap_alloc_new w.drew _,.inl rfl,hge,hcm,?_,?_⟩⟩,((Below.refl _ _).drew.alloc (QY _) _)⟩
   ·refine Nat.le_of_eq (Eq.symm ?_)
    simp only[ZJ,JC,size_zeroCells,hzs,hown.1,hl,←Nat.add_mul]
    congr 1; omega
   grind
  rcases hown.2 with⟨rfl,rfl⟩ | ⟨g,cap,cur,fz,rfl,hbg,hg,hfz,hnc,hcm,hcs,htake⟩
  ·have hx:xs=[]:=QE (by grind)
   subst hx
   by_cases hk0:k=0
   ·subst hk0
    have hn0:news=[]:=QE (by simpa using hl)
    subst hn0
    refine⟨.slice none 0 0,w,?_,World.ownsRowS_nil w base e i.size,⟨rfl,rfl,rfl,QY _,fun _ _ _=>rfl⟩,.inl rfl⟩
    simp[Builtin.append_,run_underlying hu,Go.sizeOf,typeInfo,hi,Builtin.lenOf,Builtin.firstCells,loadCells,loadCellsFrom]
   ·have hr:=run_append_nil (P:=P) w t ty e i ee.z hu hi hz' ad k c news hl hn (by omega) (by omega) (by have hb:=hbytes; grind)
    obtain⟨g1,g2⟩:=grown 0 (by omega)
    simp only[QV,QF,Array.empty_append]at g1 g2 ⊢
    exact⟨_,_,hr,g1,⟨g2.os,g2.tape,g2.output,g2.size,fun b hb _=>g2.block b hb⟩,.inr ⟨rfl,g2⟩⟩
  ·by_cases hroom:m+k≤cap
   ·have hfit:m*i.size+news.length≤cur.size:=by rw[hl,←Nat.add_mul]; exact QW (QI _ hroom) hcs
    have hr:=Qm2 (P:=P) (w:=w) t ty e i hu hi g m cap cur fz hg hfz ad k c news hl hn h1 hroom hfit
    have hszr:(cur.toList.take (m*i.size)++news++cur.toList.drop (m*i.size+news.length)).toArray.size=cur.size:=by
     grind
    refine⟨_,_,hr,⟨hlen,.inr ⟨g,cap,_,fz,rfl,hbg,setRow_heap w g cur _ e _ hg,by rw[hszr]; exact hfz,hroom,hcm,by rw[hszr]; exact hcs,?_⟩⟩,⟨rfl,rfl,rfl,by simp,fun b _ hb=>setRow_other w g b _ (fun e=>hb (by simp[Value.ownBlock,e]))⟩,.inl rfl⟩
    rw[htake,←hlen]
    grind
   ·have holds:∀j u,xs[j]?=some u→w.cell? ((⟨g,0,none⟩:Addr).add j)=some u:=hown.cells (g:=g) rfl
    have hr:=run_append_grow (P:=P) w t ty e i ee.z hu hi hz' ⟨g,0,none⟩ m cap xs hown.1 holds ad k c news hl hn (by omega) (by omega) (growslice_fits (by omega) hbytes)
    obtain⟨g1,g2⟩:=grown cap (by omega)
    exact⟨_,_,hr,g1,⟨g2.os,g2.tape,g2.output,g2.size,fun b hb _=>g2.block b hb⟩,.inr ⟨rfl,g2⟩⟩
end
end Gd

/- The step of append; parts of slices and strings; conversions. -/
namespace Gd
open Go Go.RowKit
set_option linter.unusedVariables false
set_option linter.unusedSimpArgs false
section
variable {P:Program} {T:Tab} {β:Nat→Nat} {X:Cx} {G:GL} {D:List DF} {H:HL} {O:List TL} {a:Act} {w w':World}
variable {ops:Array Oper} {Q:Exit→Act→World→Prop} {rest:List Oper}
theorem Q2n{τ:Type}{r:RT τ}{ok:Ok}{w:World}{b o:Nat}:∀(xs:List τ) (k:Nat),
  (∀i x,xs[i]?=some x→∃cs,r.rep ok w x cs∧If ok w b (o+(k+i)*r.size) cs) →
  ∃cs:List Value,cs.length=xs.length*r.size∧(∀c∈cs,c.oneCell'=true)∧(∀(j:Nat) u,cs[j]?=some u→ok b (o+k*r.size+j)∧w.cell? ⟨b,o+k*r.size+j,none⟩=some u) ∧
   ∀i x,xs[i]?=some x→∃ds,r.rep ok w x ds∧∀(j:Nat) u,ds[j]?=some u→cs[i*r.size+j]?=some u
 | [],k,_=>⟨[],by simp,by simp,by simp,by simp⟩
 | x::xs,k,h=>by
  obtain⟨d0,hr0,hc0⟩:=h 0 x rfl
  obtain⟨cs,hl,h1,hc,hi⟩:=Q2n xs (k+1) (fun i y hy=>by
   have:=h (i+1) y (by simpa using hy)
   rw[show k+(i+1)=k+1+i from by omega]at this
   exact this)
  have hl0:=r.len hr0
  refine⟨d0++cs,by grind,?_,?_,?_⟩
  ·intro c hcm
   rcases QX.1 hcm with hcm | hcm
   ·exact r.flat hr0 c hcm
   ·exact h1 c hcm
  ·intro j u hu
   by_cases hj:j<d0.length
   ·rw[JW hj]at hu
    have:=hc0 j u hu
    grind
   grind
  ·intro i y hy
   cases i with
   | zero =>
    grind
   | succ i =>
    obtain⟨ds,hr,hd⟩:=hi i y (by simpa using hy)
    refine⟨ds,hr,fun j u hu=>?_⟩
    rw[JE (by rw[hl0,Nat.add_mul]; omega),hl0]
    grind
theorem Sc{τ:Type}{r:RT τ}{ok:Ok}{xs:List τ}{A:Option Addr}{m c:Nat}(h:Qv5 r ok w xs (.slice A m c)) :
  ∃cs:List Value,cs.length=m*r.size∧xs.length=m∧m≤c∧(A=none→m=0)∧(∀c∈cs,c.oneCell'=true) ∧
   (0<m→∃b o,A=some ⟨b,o,none⟩∧∀(j:Nat) u,cs[j]?=some u→ok b (o+j)∧w.cell? ⟨b,o+j,none⟩=some u) ∧
   ∀i x,xs[i]?=some x→∃ds,r.rep ok w x ds∧∀(j:Nat) u,ds[j]?=some u→cs[i*r.size+j]?=some u:=by
 obtain⟨A',m',c',hv,hl,hc,hn⟩:=h
 injection hv with e1 e2 e3
 subst e1; subst e2; subst e3
 rcases Nat.eq_zero_or_pos m with h0 | h0
 ·have hx:xs=[]:=QE (by omega)
  simp_all
 ·obtain⟨b,o,rfl,hx⟩:=hn h0
  obtain⟨cs,hcl,h1,hcc,hi⟩:=Q2n (r:=r) (ok:=ok) (w:=w) (b:=b) (o:=o) xs 0 (fun i x hx'=>by rw[QV]; exact hx i x hx')
  grind
def Q2o{τ:Type}(r:RT τ)(ok:Ok)(w:World)(xs:List τ)(A:Option Addr)(m c:Nat):Prop :=
 ∃cs:List Value,cs.length=m*r.size∧xs.length=m∧m≤c∧(A=none→m=0)∧(∀c∈cs,c.oneCell'=true) ∧
  (0<m→∃b o,A=some ⟨b,o,none⟩∧∀(j:Nat) u,cs[j]?=some u→w.cell? ⟨b,o+j,none⟩=some u) ∧
  ∀i x,xs[i]?=some x→∃ds,r.rep ok w x ds∧∀(j:Nat) u,ds[j]?=some u→cs[i*r.size+j]?=some u
theorem Ja3{τ:Type}{r:RT τ}{ok:Ok}{xs:List τ}{A:Option Addr}{m c:Nat}(h:isV (rSl r) ok w xs (.slice A m c)):Q2o r ok w xs A m c:=by
 obtain⟨cs,h1,h2,h3,h4,h5,h6,h7⟩:=Sc (U9.1 h)
 exact⟨cs,h1,h2,h3,h4,h5,fun hm=>let⟨b,o,e,hc⟩:=h6 hm; ⟨b,o,e,fun j u hu=>(hc j u hu).2⟩,h7⟩
theorem Q2o.weak{τ:Type}{r:RT τ}{ok ok':Ok}{xs:List τ}{A:Option Addr}{m c:Nat}(h:Q2o r ok w xs A m c)(hk:∀b o,ok b o→ok' b o):Q2o r ok' w xs A m c:=by
 obtain⟨cs,h1,h2,h3,h4,h5,h6,h7⟩:=h
 exact⟨cs,h1,h2,h3,h4,h5,h6,fun i x hx=>let⟨ds,q1,q2⟩:=h7 i x hx; ⟨ds,r.weak q1 hk,q2⟩⟩
theorem Bf(A:Option Addr)(n n' c c':Nat):(Value.slice A n c).ownBlock=(Value.slice A n' c').ownBlock:=by cases A<;>rfl
theorem E8(b o j:Nat):(⟨b,o,none⟩:Addr).add j=⟨b,o+j,none⟩:=Addr.add_lit b o j
theorem Q2p(hT:Q0 P T)(h:Sb β X G D H O a w)(kx ky:Nat)(O1 O2:List TL){t:TypeId}{s x:Operand}{d:Nat}{ps:String}{af:Array Edge}{ty:TypeId}{gd:Option (Nat×Bool)}
  (hg:Dh ops G ⟨some d,.call ⟨.builtin .append,⟨[s,x]⟩,⟨[t,t]⟩⟩,ty,ps,af,gd⟩=some true) (hlt:okD X d=true)
  {τ:Type} {r:RT τ} {xs ys zs:List τ} {A:Option Addr} {A2:Option Addr} {m c m2 c2:Nat} {e:TypeId} {te ee:TE} (ht:Qk T t=some te) (htd:te.d=.slice e) (he:Qk T e=some ee) (hs:ee.size=r.size)
  (hz:Nat.beq (Qu ee.z).length ee.size=true) (hsz:Nat.ble 1 ee.size=true) (hby:Nat.ble 1 ee.bytes=true)
  (hO:O=O1++tl (.slice A m c) e ee.size::O2) (hs1:gv G s=some (.v (.slice A m c))) (hx1:gv G x=some (.v (.slice A2 m2 c2)))
  (hDx:D[kx]?=some (DF.v (rSl r) xs (.slice A m c))) (hDy:isV (rSl r) (Je X.ok X.w.heap.size β H O w) w ys (.slice A2 m2 c2)) (happ:app ee.bytes xs ys=some zs)
  (hk:∀A' c' a' w',isV (rSl r) (Je X.ok X.w.heap.size β H (O1++tl (.slice A' zs.length c') e ee.size::O2) w') w' zs (.slice A' zs.length c') →
   Sb β X (Qce G d (.v (.slice A' zs.length c'))) D H (O1++tl (.slice A' zs.length c') e ee.size::O2) a' w'→wpList P ops Q rest a' w') :
  wpList P ops Q (⟨some d,.call ⟨.builtin .append,⟨[s,x]⟩,⟨[t,t]⟩⟩,ty,ps,af,gd⟩::rest) a w:=by
 subst hO
 obtain⟨hbytes,rfl⟩:=Qm1 happ
 have hmem:(tl (.slice A m c) e ee.size:TL)∈O1++tl (.slice A m c) e ee.size::O2:=by simp
 obtain⟨xs0,hown⟩:=(h.own _ hmem).1
 have hmine:∀g,(Value.slice A m c).ownBlock=some g→X.mine g:=(h.own _ hmem).2
 have hvx:=U9.1 (h.d kx hDx)
 obtain⟨csx,hcx1,hxl,hmc,hA,hcx2,hcx3,hcx4⟩:=Sc hvx
 obtain⟨csy,hcy1,hyl,hmc2,hA2,hcy2,hcy3,hcy4⟩:=Sc (U9.1 hDy)
 have hzl:=Nat.eq_of_beq_eq_true hz
 have hsz':0<ee.size:=QK hsz
 have hby':0<ee.bytes:=QK hby
 have hnews:∀ad,A2=some ad→∀j u,csy[j]?=some u→w.cell? (ad.add j)=some u:=by
  intro ad had j u hu
  have hj:=(List.getElem?_eq_some_iff.1 hu).1
  have hm2:0<m2:=by
   grind
  grind [E8]
 simp only[Wk]at hown
 obtain⟨v',w1,hrun,hown',hgrow,hblk⟩:=Qjo (P:=P) (w:=w) (ty:=ty) hT ht htd he hzl hsz' hby' hown (QR _) (k:=m2) (c:=c2) (A:=A2) (news:=csy) (by rw[hs]; exact hcy1) hA2 hnews hcy2 (by rw[←hxl,←hyl]; exact hbytes)
 have hrun':(execOp a.eval ⟨some d,.call ⟨.builtin .append,⟨[s,x]⟩,⟨[t,t]⟩⟩,ty,ps,af,gd⟩).run P w=.ok (.value v') w1:=by
  unfold execOp
  have hm:(Array.mk [s,x]).map a.eval=⟨[.slice A m c,.slice A2 m2 c2]⟩:=by simp[h.ev hs1,h.ev hx1,My]
  simp_all [resolve,invoke,builtin]
 have hxs0:xs0.length=m*ee.size:=hown.1
 have hform:∃A' c',v'=.slice A' (m+m2) c'∧m+m2≤c'∧(0<m+m2→∃g,A'=some ⟨g,0,none⟩):=by
  rcases hown'.2 with⟨rfl,h0⟩ | ⟨g,cap,cur,fz,rfl,_,_,_,hle,_⟩
  ·grind
  grind
 obtain⟨A',c',rfl,hc',hA'⟩:=hform
 have hlen:(xs++ys).length=m+m2:=by rw[List.length_append,hxl,hyl]
 have hrow:∀g,(Value.slice A' (m+m2) c').ownBlock=some g→∀(j:Nat) u,(xs0++csy)[j]?=some u→w1.cell? ⟨g,j,none⟩=some u:=by
  intro g hg j u hu
  have:=hown'.cells hg j u hu
  rwa[E8,QV]at this
 have hrow0:∀g,(Value.slice A m c).ownBlock=some g→∀(j:Nat) u,xs0[j]?=some u→w.cell? ⟨g,j,none⟩=some u:=by
  intro g hg j u hu
  have:=hown.cells hg j u hu
  rwa[E8,QV]at this
 have hlt1:=hown'.lt
 have hlt0:=hown.lt
 have hmine1:∀g,(Value.slice A' (m+m2) c').ownBlock=some g→X.mine g:=by
  intro g hg
  rcases hblk with he1 | ⟨he1,_⟩
  ·grind
  ·rw[he1]at hg; injection hg with hg; subst hg; exact .inl h.bel.size
 have hevo:Evo (Je X.ok X.w.heap.size β H (O1++tl (.slice A m c) e ee.size::O2) w) w w1:=by
  refine⟨hgrow.size,fun b o hk=>?_,fun b es cl hk hmp=>?_⟩
  rotate_left
  ·have hbg:some b≠(Value.slice A m c).ownBlock:=by
    intro he
    rcases hown.2 with⟨hv0,_⟩ | ⟨g,cap,cur,fz,hv0,_,hh,_⟩
    ·rw[hv0]at he; simp[Value.ownBlock]at he
    grind [Value.ownBlock,Option.some.injEq]
   rw[hgrow.block b hk.2.1 hbg]; exact hmp
  obtain⟨_,h2,_,h4⟩:=hk
  by_cases hbg:some b=(Value.slice A m c).ownBlock
  ·rcases hblk with he1 | ⟨he1,hbel⟩
   ·have hnc:=h4 _ hmem
    simp only[tl,Wk,not_and,Nat.not_le]at hnc
    have ho:o<m*ee.size:=hnc hbg.symm
    have hu:∃u,xs0[o]?=some u:=⟨xs0[o]'(by omega),List.getElem?_eq_getElem (by omega)⟩
    grind
   ·exact hbel.cell (p:=⟨b,o,none⟩) h2
  ·exact World.cell?_of_block (w:=w) (hgrow.block b h2 hbg)
 have hok:∀b o,Je X.ok X.w.heap.size β H (O1++tl (.slice A m c) e ee.size::O2) w b o→Je X.ok X.w.heap.size β H (O1++tl (.slice A' (xs++ys).length c') e ee.size::O2) w1 b o:=by
  rintro b o ⟨h1,h2,h3,h4⟩
  refine⟨h1,QB h2 hgrow.size,h3,fun t ht hcv=>?_⟩
  rcases QX.1 ht with ht | ht
  ·grind
  ·rcases QJ.1 ht with rfl | ht
   ·obtain⟨c1,c2⟩:=hcv
    simp only[Wk,hlen]at c1 c2
    rcases hblk with he1 | ⟨he1,_⟩
    ·have hnc:=h4 _ hmem
     simp only[tl,Wk,not_and,Nat.not_le]at hnc
     have:=hnc (by rw[←he1]; exact c1)
     rw[Nat.add_mul]at c2
     omega
    grind
   grind
 have hothers:∀t∈O1++O2,∀g,t.blks g→some g≠(Value.slice A m c).ownBlock∧g<w.heap.size:=by
  intro t ht g hg
  refine⟨fun e1=>?_,h.olt (by rcases QX.1 ht with ht | ht<;>simp[ht]) hg⟩
  have hp:=QG.1 h.dOO
  rcases QX.1 ht with ht | ht
  ·exact hp.2.2 t ht _ (.head _) g hg e1.symm
  ·have hp2:=List.pairwise_cons.1 hp.2.1
   exact hp2.1 t ht g e1.symm hg
 have hSb:Sb β X G D H (O1++tl (.slice A' (xs++ys).length c') e ee.size::O2) a w1:=by
  refine { sz:=h.sz,df:=h.df,fr:=h.fr,pn:=h.pn,tm:=h.tm,bel:=?_,dat:=(h.dat.evo hevo).weak hok,obj:=?_,own:=?_,dHH:=h.dHH,dHO:=?_,dOO:=?_ }
  ·exact h.bel.trans ⟨hgrow.os,hgrow.tape,hgrow.output,hgrow.size,fun k hk hn=>hgrow.block k (QB hk h.bel.size) (fun e1=>by exact(hmine k e1.symm).elim (fun h=>by omega) hn)⟩
  ·intro p hp
   have hpb:=Vb (h.obj p hp).1
   refine⟨?_,(h.obj p hp).2⟩
   rw[hgrow.block _ hpb (fun e1=>h.dHO p hp _ hmem e1.symm)]
   exact(h.obj p hp).1
  ·intro t ht
   rcases QX.1 ht with ht' | ht'
   ·exact⟨t.weak (t.keep (h.own t (by simp[ht'])).1 (fun g hg=>hgrow.block g (hothers t (by simp[ht']) g hg).2 (hothers t (by simp[ht']) g hg).1) hevo) hok,(h.own t (by simp[ht'])).2⟩
   ·rcases QJ.1 ht' with rfl | ht'
    ·refine⟨⟨xs0++csy,?_⟩,fun g hg=>hmine1 g ((Bf A' (m+m2) (xs++ys).length c' c').trans hg)⟩
     grind [Wk]
    ·exact⟨t.weak (t.keep (h.own t (by simp[ht'])).1 (fun g hg=>hgrow.block g (hothers t (by simp[ht']) g hg).2 (hothers t (by simp[ht']) g hg).1) hevo) hok,(h.own t (by simp[ht'])).2⟩
  ·intro p hp t ht
   have hpb:=Vb (h.obj p hp).1
   rcases QX.1 ht with ht' | ht'
   ·exact h.dHO p hp t (by simp[ht'])
   ·rcases QJ.1 ht' with rfl | ht'
    ·intro e1
     have e2:(Value.slice A' (m+m2) c').ownBlock=some (β p.1):=(Bf A' (m+m2) (xs++ys).length c' c').trans e1
     rcases hblk with he1 | ⟨he1,_⟩
     ·rw[he1]at e2; exact h.dHO p hp _ hmem e2
     grind
    ·exact h.dHO p hp t (by simp[ht'])
  ·have hp:=QG.1 h.dOO
   have hp2:=List.pairwise_cons.1 hp.2.1
   have hnew:∀t∈O1++O2,∀g,t.blks g→(Value.slice A' (m+m2) c').ownBlock≠some g:=by
    grind
   refine QG.2 ⟨hp.1,List.pairwise_cons.2 ⟨fun t ht g hg hg2=>hnew t (by simp[ht]) g hg2 ((Bf A' (m+m2) (xs++ys).length c' c').trans hg),hp2.2⟩,?_⟩
   intro t ht u hu g hg
   rcases QJ.1 hu with rfl | hu
   ·exact fun hg2=>hnew t (by simp[ht]) g hg ((Bf A' (m+m2) (xs++ys).length c' c').trans hg2)
   grind
 have hfact:isV (rSl r) (Je X.ok X.w.heap.size β H (O1++tl (.slice A' (xs++ys).length c') e ee.size::O2) w1) w1 (xs++ys) (.slice A' (xs++ys).length c'):=by
  refine U9.2 ⟨_,_,_,rfl,rfl,by omega,fun hpos=>?_⟩
  obtain⟨g,rfl⟩:=hA' (by omega)
  refine⟨g,0,rfl,fun i x hx=>?_⟩
  have hgb:(Value.slice (some ⟨g,0,none⟩) (m+m2) c').ownBlock=some g:=rfl
  have hbase:=hlt1 g hgb
  have hcells:∀(j:Nat) u,(xs0++csy)[j]?=some u→j<(m+m2)*ee.size→Je X.ok X.w.heap.size β H (O1++tl (.slice (some ⟨g,0,none⟩) (xs++ys).length c') e ee.size::O2) w1 g j∧w1.cell? ⟨g,j,none⟩=some u:=by
   intro j u hu hj
   refine⟨⟨X.mine_ok (hmine1 g hgb) j,hbase.2,fun p hp e1=>?_,fun t ht hcv=>?_⟩,hrow g hgb j u hu⟩
   ·have hpb:=Vb (h.obj p hp).1
    rcases hblk with he1 | ⟨he1,_⟩
    ·exact h.dHO p hp _ hmem (by show(Value.slice A m c).ownBlock=some (β p.1); rw[←he1,e1]; exact hgb)
    grind
   ·rcases QX.1 ht with ht' | ht'
    ·have:=hothers t (by simp[ht']) g (t.cb hcv)
     grind
    ·rcases QJ.1 ht' with rfl | ht'
     ·have c2:=hcv.2
      simp only[Wk,hlen]at c2
      omega
     ·have:=hothers t (by simp[ht']) g (t.cb hcv)
      grind
  have hconv:∀{x:τ} {ds:List Value},r.rep (Je X.ok X.w.heap.size β H (O1++tl (.slice A m c) e ee.size::O2) w) w x ds →
    r.rep (Je X.ok X.w.heap.size β H (O1++tl (.slice (some ⟨g,0,none⟩) (xs++ys).length c') e ee.size::O2) w1) w1 x ds:=fun hr=>r.weak (r.evo hr hevo) hok
  by_cases hi:i<m
  ·rw[JW (by omega)]at hx
   obtain⟨ds,hr,hd⟩:=hcx4 i x hx
   refine⟨ds,hconv hr,fun j u hu=>?_⟩
   have hj:j<r.size:=by have:=(List.getElem?_eq_some_iff.1 hu).1; rw[r.len hr]at this; exact this
   have hcu:=hd j u hu
   have hidx:i*r.size+j<m*r.size:=by
    have:(i+1)*r.size≤m*r.size:=QI _ hi
    rw[Nat.add_mul]at this; omega
   obtain⟨b',o',hA0,hc0⟩:=hcx3 (by omega)
   have hown0:b'=g∨True:=.inr trivial
   have hxs:xs0[i*r.size+j]?=some u:=by
    rcases hown.2 with⟨hv0,h0⟩ | ⟨g0,cap,cur,fz0,hv0,_,_,_⟩
    ·omega
    ·injection hv0 with hv0
     rw[hA0]at hv0
     injection hv0 with hv0
     injection hv0 with hb0 ho0
     subst hb0; subst ho0
     have h1:=(hc0 _ u hcu).2
     have h2:=hrow0 b' (by rw[hA0]; rfl) (i*r.size+j) (xs0[i*r.size+j]'(by rw[hxs0,hs]; exact hidx)) (List.getElem?_eq_getElem _)
     rw[QV]at h1
     rw[h1]at h2
     rw[List.getElem?_eq_getElem (by rw[hxs0,hs]; exact hidx)]
     exact h2.symm
   have:=hcells (i*r.size+j) u (by rw[JW (by rw[hxs0,hs]; exact hidx)]; exact hxs) (by rw[hs,Nat.add_mul]; omega)
   rw[QV]
   exact this
  ·rw[JE (by omega),hxl]at hx
   obtain⟨ds,hr,hd⟩:=hcy4 (i - m) x hx
   refine⟨ds,hconv hr,fun j u hu=>?_⟩
   have hj:j<r.size:=by have:=(List.getElem?_eq_some_iff.1 hu).1; rw[r.len hr]at this; exact this
   have hcu:=hd j u hu
   have him:i - m<m2:=by
    have:=(List.getElem?_eq_some_iff.1 hx).1
    omega
   have hidx:(i - m)*r.size+j<m2*r.size:=by
    have:(i - m+1)*r.size≤m2*r.size:=QI _ him
    rw[Nat.add_mul]at this; omega
   have e1:i*r.size+j=m*r.size+((i - m)*r.size+j):=by
    rw[←Nat.add_assoc,←Nat.add_mul]; congr 2; omega
   have:=hcells (i*r.size+j) u (by
    rw[JE (by rw[hxs0,hs,e1]; omega),hxs0,hs,e1,XQ]
    exact hcu) (by rw[hs,Nat.add_mul,e1]; omega)
   rw[QV]
   exact this
 refine Jk (Xm h hg) (Yl hrun' ?_)
 have hput:=hSb.put hlt (.v (.slice A' (xs++ys).length c'))
 have:=hk A' c' _ w1 hfact hput
 grind [My]
end
end Gd

/- Parts of slices and strings; conversions; text put together. -/
namespace Gd
open Go Go.RowKit
set_option linter.unusedVariables false
set_option linter.unusedSimpArgs false
def slc{α:Type}(xs:List α)(lo hi:Int):Option (List α):=if 0≤lo∧lo≤hi∧hi≤(xs.length:Int)then some ((xs.drop lo.toNat).take (hi - lo).toNat)else none
theorem slc_ok{α:Type}{xs ys:List α}{lo hi:Int}(h:slc xs lo hi=some ys):0≤lo∧lo≤hi∧hi≤(xs.length:Int)∧ys=(xs.drop lo.toNat).take (hi - lo).toNat∧ys.length=(hi - lo).toNat:=by
 grind [slc,Option.some.inj]
def Jni(a b:Str):Option Str:=if a.length+b.length≤9223372036854775807 then some (a++b)else none
def Qve(xs:List Int):Str:=xs.map fun i=>UInt8.ofNat i.toNat
section
variable {P:Program} {T:Tab} {β:Nat→Nat} {X:Cx} {G:GL} {D:List DF} {H:HL} {O:List TL} {a:Act} {w w':World}
variable {ops:Array Oper} {Q:Exit→Act→World→Prop} {rest:List Oper}
theorem Qd4{k:IntKind}{i:Int}{y:Nat}{code:BoundsCode}(h0:0≤i)(h1:i≤y):(Instr.sliceBound (.int k i) y code).run P w=.ok i.toNat w:=by
 simp[Instr.sliceBound,asIntOf,h0,h1]
theorem Qrp(ns:List Int)(s:Str):ns.foldl (fun r n=>r.push (UInt8.ofNat n.toNat)) (ByteArray.mk s.toArray)=ByteArray.mk (s++Qve ns).toArray:=by
 induction ns generalizing s with
 | nil=>simp[Qve]
 | cons x ns ih =>
  grind [UInt8.ofNat,ByteArray.ext,ByteArray.push,Qve]
end
end Gd

/- A region whose order is drawn: what each operation gives, whatever the order. -/
namespace Gd
open Go Go.RowKit
set_option linter.unusedVariables false
set_option linter.unusedSimpArgs false
structure FV where
 p:Ok→World→Value→Prop
 evo:∀{ok w w' v},p ok w v→Evo ok w w'→p ok w' v
 weak:∀{ok ok' w v},p ok w v→(∀b o,ok b o→ok' b o)→p ok' w v
def Ja4(l:List Oper)(i j:Nat):Bool :=
 match l[i]? with
 | some o=>o.after.toList.any fun e=>Region.binds .any e&&Nat.beq e.on j
 | none=>false
def Bg(l:List Oper):Nat→Nat→Nat→Bool
 | 0,_,_=>false
 | f+1,i,j=>match l[i]? with
  | some o=>o.after.toList.any fun e=>Region.binds .any e&&(Nat.beq e.on j||Bg l f e.on j)
  | none=>false
def backB(l:List Oper):Bool:=l.zipIdx.all fun(o,i)=>o.after.toList.all fun e=>!Region.binds .any e||Nat.blt e.on i
def Qy4:List Nat→Bool
 | []=>true
 | d::ds=>Qos ds d&&Qy4 ds
section
variable {P:Program} {T:Tab} {β:Nat→Nat} {X:Cx} {G:GL} {D:List DF} {H:HL} {O:List TL} {a:Act} {w w':World}
theorem Vg{α β:Type}{f f':α→Option β}:∀{l:List α},(∀j∈l,f' j=f j)→l.filterMap f'=l.filterMap f
 | [],_=>rfl
 | y::ys,h=>by
  simp only[JA,h y (.head _),Vg fun j hj=>h j (.tail _ hj)]
theorem Qv7:∀{ds:List Nat},Qy4 ds=true→ds.Nodup
 | [],_=>List.Pairwise.nil
 | d::ds,h=>by
  simp only[Qy4,QQ]at h
  exact List.Pairwise.cons (fun e he hd=>Q2g h.1 (hd▸he)) (Qv7 h.2)
theorem Qm3{l:List Oper}{listed:Array Bool}{i:Nat}:i∈Region.ready .any ⟨l⟩ listed ↔
  i<l.length∧listed.getD i true=false∧∃o,l[i]?=some o∧∀e∈o.after.toList,Region.binds .any e=true→listed.getD e.on false=true:=by
 simp only[Region.ready,QD,JX,JC]
 constructor
 ·rintro⟨h1,h2⟩
  simp only[QQ,JF]at h2
  grind [Array,Oper,Array.all_eq_true_iff_forall_mem]
 grind
def Qrq(l:List Oper)(E:Nat→Prop):Prop:=∀i o,E i→l[i]?=some o→∀e∈o.after.toList,Region.binds .any e=true→E e.on
theorem Qaz{l:List Oper}{E:Nat→Prop}(hc:Qrq l E):∀(f i j:Nat),Bg l f i j=true→(∀o,l[i]?=some o→∀e∈o.after.toList,Region.binds .any e=true→E e.on)→E j
 | 0,_,_,h,_=>by simp[Bg]at h
 | f+1,i,j,h,hi=>by
  simp only[Bg]at h
  split at h
  ·rename_i o ho
   obtain⟨e,he,hb⟩:=List.any_eq_true.1 h
   simp only[QQ,JL]at hb
   have hE:=hi o ho e he hb.1
   rcases hb.2 with h1 | h1
   ·rw[←Nat.eq_of_beq_eq_true h1]; exact hE
   ·exact Qaz hc f e.on j h1 fun o' ho'=>hc _ o' hE ho'
  ·cases h
theorem Jnj{l:List Oper}{i:Nat}{o:Oper}(h:backB l=true)(ho:l[i]?=some o){e:Edge}(he:e∈o.after.toList)(hb:Region.binds .any e=true):e.on<i:=by
 have hm:(o,i)∈l.zipIdx:=by
  rw[List.mem_zipIdx_iff_getElem?]; simpa using ho
 have:=QP.1 h _ hm
 have:=QP.1 this e he
 simp_all
theorem Q8g{l:List Oper}{listed:Array Bool}(hs:listed.size=l.length)(hb:backB l=true)(hr:Region.ready .any ⟨l⟩ listed=[]):∀i,i<l.length→listed.getD i false=true:=by
 intro i
 induction i using Nat.strongRecOn with
 | _ i ih =>
  intro hi
  cases hl:listed.getD i false with
  | true=>rfl
  | false =>
   exfalso
   have:i∈Region.ready .any ⟨l⟩ listed:=by
    rw[Qm3]
    refine⟨hi,?_,l[i],by simp[hi],fun e he hbe=>?_⟩
    ·grind
    ·have hlt:=Jnj (o:=l[i]) hb (List.getElem?_eq_getElem hi) he hbe
     grind
   rw[hr]at this
   simp at this
theorem Qy5{l:List Oper}{Q:Exit→Act→World→Prop}{i:Nat}{o:Oper}{K:Act→World→Prop}(ho:l[i]?=some o)(h:wpList P ⟨l⟩ (Exit.then K Q) [o] a w):wpOp P ⟨l⟩ Q i K a w:=by
 have ho':(⟨l⟩:Array Oper)[i]?=some o:=by simpa using ho
 unfold wpOp
 rw[ho']
 unfold wpList at h
 simp only
 split
 ·rename_i hw
  rw[if_pos hw]at h
  rcases h with h | ⟨h1,h2⟩
  ·left
   unfold Oper.wp at *
   generalize (execOp a.eval o).run P w=res at *
   cases res with
   | ok nx w1 =>
    cases nx<;>first
     | exact h
     | exact Calls.mono h (fun e w'' he=>by cases e<;>exact he)
     | exact Rows.mono h (fun _ _ he=>he)
   | halt x w1=>cases x<;>exact h
  ·exact .inr ⟨h1,h2⟩
 ·rename_i hw
  rw[if_neg hw]at h
  exact h
theorem Qk2{l:List Oper}{Q:Exit→Act→World→Prop}{i:Nat}{o:Oper}(ho:l[i]?=some o)(h:wpList P ⟨l⟩ Q (l.drop i) a w):wpOp P ⟨l⟩ Q i (wpList P ⟨l⟩ Q (l.drop (i+1))) a w:=by
 have ho':(⟨l⟩:Array Oper)[i]?=some o:=by simpa using ho
 have hi:=(List.getElem?_eq_some_iff.1 ho).1
 rw[List.drop_eq_getElem_cons hi,(List.getElem?_eq_some_iff.1 ho).2]at h
 unfold wpOp
 rw[ho']
 exact h
theorem Sb.perm{O':List TL}(h:Sb β X G D H O a w)(hp:O.Perm O'):Sb β X G D H O' a w:=by
 have hok:∀b o,Je X.ok X.w.heap.size β H O w b o→Je X.ok X.w.heap.size β H O' w b o:=fun b o ⟨h1,h2,h3,h4⟩=>⟨h1,h2,h3,fun u hu=>h4 u (hp.mem_iff.2 hu)⟩
 refine { sz:=h.sz,df:=h.df,fr:=h.fr,pn:=h.pn,tm:=h.tm,bel:=h.bel,dat:=h.dat.weak hok,obj:=h.obj,own:=fun u hu=>⟨u.weak (h.own u (hp.mem_iff.2 hu)).1 hok,(h.own u (hp.mem_iff.2 hu)).2⟩,dHH:=h.dHH,dHO:=fun p hp' u hu=>h.dHO p hp' u (hp.mem_iff.2 hu),dOO:=?_ }
 exact(hp.pairwise_iff (fun {x y} hxy g hg hg2=>hxy g hg2 hg)).1 h.dOO
end
end Gd

/- Struct equality, literals of the call's own, results in cells, local arrays, function values. -/
namespace Gd
open Go Go.RowKit
set_option linter.unusedVariables false
set_option linter.unusedSimpArgs false
def Qrr(T:Tab):List Field→List Value→List Value→Option Bool
 | [],_,_=>some true
 | f::fs,xs,ys=>match Qk T f.type,xs[f.offset]?,ys[f.offset]?,Qrr T fs xs ys with
  | some ⟨_,.int _,_,_,_⟩,some (.int k a),some (.int k' b),some r=>bif Qax k k' then some ((a==b)&&r)else none
  | some ⟨_,.bool,_,_,_⟩,some (.bool a),some (.bool b),some r=>some ((a==b)&&r)
  | some ⟨_,.string,_,_,_⟩,some (.string ⟨⟨a⟩⟩),some (.string ⟨⟨b⟩⟩),some r=>some ((a==b)&&r)
  | _,_,_,_=>none
def Tl(fs:List Field):Bool:=fs.all fun f=>f.name != "_"
section
variable {P:Program} {T:Tab} {β:Nat→Nat} {X:Cx} {G:GL} {D:List DF} {H:HL} {O:List TL} {a:Act} {w w':World}
variable {ops:Array Oper} {Q:Exit→Act→World→Prop} {rest:List Oper}
theorem Qjp(hT:Q0 P T){t:TypeId}{e:TE}(he:Qk T t=some e)(ha:Gn e.d=false){xs:List Value}{off:Nat}{v:Value}(hv:xs[off]?=some v) :
  (part t xs.toArray off).run P w=.ok v w:=Qrl hT w he xs off (by rw[ha]; simpa using hv)
theorem Qy6(hT:Q0 P T)(d:Nat):∀{fs:List Field} {xs ys:List Value} {r:Bool},Tl fs=true→Qrr T fs xs ys=some r→(Op.eqFields (d+1) xs.toArray ys.toArray fs).run P w=.ok r w
 | [],xs,ys,r,_,h=>by simp[Qrr]at h; subst h; rfl
 | f::fs,xs,ys,r,hb,h=>by
  simp only[Tl,JM,QQ]at hb
  have hn:f.name ≠ "_" := by grind
  simp only[Qrr]at h
  have key:∀{e:TE} {u v:Value} {p q:Bool},Qk T f.type=some e→Gn e.d=false→xs[f.offset]?=some u→ys[f.offset]?=some v →
    (Op.equalIn (d+1) f.type u v).run P w=.ok p w→Qrr T fs xs ys=some q→(Op.eqFields (d+1) xs.toArray ys.toArray (f::fs)).run P w=.ok (p&&q) w:=by
   intro e u v p q he ha hu hv hp hq
   have ih:=Qy6 hT d (by grind [Tl]) hq
   simp only[Op.eqFields,ne_eq,hn,not_false_eq_true,if_true,Sem.run_bind,Qjp hT he ha hu,Qjp hT he ha hv,Result.andThen_ok,hp]
   cases p with
   | true=>simpa using ih
   | false=>simp
  split at h
  ·rename_i t1 k z1 s1 b1 k1 a1 k2 a2 q he hu hv hq
   cases hk:Qax k1 k2 with
   | false=>rw[hk]at h; cases h
   | true =>
    rw[hk]at h
    simp only[cond_true,Option.some.injEq]at h
    subst h
    have:=Io hk
    subst this
    exact key he rfl hu hv (run_equalIn_int w d f.type k1 k a1 a2 (Jo hT he).2) hq
  ·rename_i he hu hv hq
   simp at h; subst h
   exact key he rfl hu hv (run_equalIn_bool' w d f.type _ _ (Jo hT he).2) hq
  ·rename_i t1 z1 s1 b1 a1 a2 q he hu hv hq
   simp at h; subst h
   refine key he rfl hu hv ?_ hq
   rw[run_equalIn_string w d f.type ⟨⟨a1⟩⟩ ⟨⟨a2⟩⟩ (Jo hT he).2]
   rw[show(ByteArray.mk ⟨a1⟩).toList=a1 from ByteArray.toList_mk a1,show(ByteArray.mk ⟨a2⟩).toList=a2 from ByteArray.toList_mk a2]
  ·cases h
theorem Sb.allocTL(h:Sb β X G D H O a w)(hb:Below w.heap.size w w'){t:TL}(ht:∀g,t.blks g→w.heap.size≤g)(hq:t.p (Je X.ok X.w.heap.size β H (t::O) w') w'):Sb β X G D H (t::O) a w':=by
 have h':=h.below hb
 have hevo:Evo (Je X.ok X.w.heap.size β H O w) w w':=(Evo.of_below hb).mono fun b o hk=>hk.2.1
 have hok:∀b o,Je X.ok X.w.heap.size β H O w b o→Je X.ok X.w.heap.size β H (t::O) w' b o:=by
  rintro b o ⟨h1,h2,h3,h4⟩
  refine⟨h1,QB h2 hb.size,h3,fun u hu hc=>?_⟩
  rcases QJ.1 hu with rfl | hu
  ·have:=ht b (u.cb hc); omega
  ·exact h4 u hu hc
 refine { h' with dat:=(h.dat.evo hevo).weak hok,own:=fun u hu=>?_,dHO:=fun p hp u hu=>?_,dOO:=List.Pairwise.cons (fun u hu g hg hg2=>?_) h'.dOO }
 ·rcases QJ.1 hu with rfl | hu
  ·exact⟨hq,fun g hg=>.inl (QW h.bel.size (ht g hg))⟩
  ·exact⟨u.weak (u.keep (h.own u hu).1 (fun g hg=>hb.block g (h.olt hu hg)) hevo) hok,(h.own u hu).2⟩
 ·rcases QJ.1 hu with rfl | hu
  ·intro hg
   have:=ht _ hg
   have:=h.hlt hp
   omega
  ·exact h'.dHO p hp u hu
 ·have:=ht g hg
  have:=h.olt hu hg2
  omega
theorem Sb.allocOwn(h:Sb β X G D H O a w)(hb:Below w.heap.size w w'){v:Value}{e sz m:Nat}{xs:List Value}(hv:v.ownBlock=some w.heap.size∨v.ownBlock=none)(hm:Wk v=m)(hown:w'.ownsRowS 0 e sz v m xs) :
  Sb β X G D H (tl v e sz::O) a w':=by
 subst hm
 refine h.allocTL hb (t:=tl v e sz) (fun g hg=>?_) ⟨xs,hown⟩
 rcases hv with hv | hv
 ·have hg:v.ownBlock=some g:=hg
  rw[hv]at hg; grind
 ·have hg:v.ownBlock=some g:=hg
  rw[hv]at hg; cases hg
theorem Jnk(w:World)(B:Nat)(hB:B≤w.heap.size)(e sz m:Nat)(cs:List Value)(hl:cs.length=m*sz)(hm:m≤maxLen) :
  (w.alloc (.cells cs.toArray e)).ownsRowS B e sz (.slice (some ⟨w.heap.size,0,none⟩) m m) m cs :=
 ⟨hl,.inr ⟨w.heap.size,m,cs.toArray,(0,0),rfl,hB,heap_alloc_new w _,.inl rfl,QY _,hm,by simp[hl],by rw[←hl]; simp⟩⟩
theorem Qrs(hT:Q0 P T)(h:Sb β X G D H O a w){t:TypeId}{d:Nat}{ps:String}{af:Array Edge}{ty:TypeId}{gd:Option (Nat×Bool)}
  (hg:Dh ops G ⟨some d,.buildSlice t 0 ⟨[]⟩,ty,ps,af,gd⟩=some true) (hlt:okD X d=true)
  {τ:Type} {r:RT τ} {e:TypeId} {te ee:TE} (ht:Qk T t=some te) (htd:te.d=.slice e) (he:Qk T e=some ee)
  (hk:∀b a' w',isV (rSl r) (Je X.ok X.w.heap.size β H (tl (.slice (some ⟨b,0,none⟩) (List.length ([]:List τ)) 0) e ee.size::O) w') w' [] (.slice (some ⟨b,0,none⟩) (List.length ([]:List τ)) 0) →
   Sb β X (Qce G d (.v (.slice (some ⟨b,0,none⟩) (List.length ([]:List τ)) 0))) D H (tl (.slice (some ⟨b,0,none⟩) (List.length ([]:List τ)) 0) e ee.size::O) a' w'→wpList P ops Q rest a' w') :
  wpList P ops Q (⟨some d,.buildSlice t 0 ⟨[]⟩,ty,ps,af,gd⟩::rest) a w:=by
 have hrun:(execOp a.eval ⟨some d,.buildSlice t 0 ⟨[]⟩,ty,ps,af,gd⟩).run P w=.ok (.value (.slice (some ⟨w.heap.size,0,none⟩) 0 0)) (w.alloc (.cells #[] e)):=by
  have hun:(underlying t).run P w=.ok (.slice e) w:=by rw[J2 hT w ht,htd]
  unfold execOp
  simp[Instr.buildSlice,hun,Yg hT w he,Instr.fill,newRow]
  rw[show Array.range 0=#[]from by grind]
  simp
 refine Jk (Xm h hg) (Yl hrun ?_)
 have hb:Below w.heap.size w (w.alloc (.cells #[] e)):=(Below.refl _ _).alloc (QY _) _
 exact hk _ _ _ (U9.2 ⟨_,0,0,rfl,rfl,QY _,fun h=>absurd h (by omega)⟩)
  ((h.allocOwn hb (.inl rfl) rfl (Jnk w 0 (QR _) e ee.size 0 [] (by simp) (by simp[maxLen]))).put hlt (.v _))
end
end Gd

/- Results that are rows of the caller's own; local arrays; objects that are no longer written; function values. -/
namespace Gd
open Go Go.RowKit
set_option linter.unusedVariables false
set_option linter.unusedSimpArgs false
section
variable {P:Program} {T:Tab} {β:Nat→Nat} {X:Cx} {G:GL} {D:List DF} {H:HL} {O:List TL} {a:Act} {w w':World}
variable {ops:Array Oper} {Q:Exit→Act→World→Prop} {rest:List Oper}
end
end Gd

/- Local arrays of integers. -/
namespace Gd
open Go Go.RowKit
set_option linter.unusedVariables false
set_option linter.unusedSimpArgs false
section
variable {P:Program} {T:Tab} {β:Nat→Nat} {X:Cx} {G:GL} {D:List DF} {H:HL} {O:List TL} {a:Act} {w w':World}
variable {ops:Array Oper} {Q:Exit→Act→World→Prop} {rest:List Oper}
end
end Gd

/- Division and shifts by what is not a constant. -/
namespace Gd
open Go Go.RowKit
set_option linter.unusedVariables false
set_option linter.unusedSimpArgs false
def Q8h(k:IntKind)(x y:Int):Option Int:=if y=0 then none else some (k.wrap (x.tdiv y))
def Q2q(x y:Int):Option Int:=if y=0 then none else some (x.tmod y)
def Jh1(k:IntKind)(x y:Int):Option Int:=if y<0 then none else some (x.fdiv (2 ^ (min y.toNat k.bits)))
def Jd8(k:IntKind)(x y:Int):Option Int:=if y<0 then none else some (k.wrap (x*2 ^ (min y.toNat k.bits)))
section
variable {P:Program} {T:Tab} {β:Nat→Nat} {X:Cx} {G:GL} {D:List DF} {H:HL} {O:List TL} {a:Act} {w w':World}
variable {ops:Array Oper} {Q:Exit→Act→World→Prop} {rest:List Oper}
theorem Jnl{t:TypeId}{k:IntKind}{u v z:Int}(h:Q8h k u v=some z)(w:World):(binOp .quo t (.int k u) (.int k v)).run P w=.ok (.int k z) w:=by
 simp_all [Q8h,Option.some.inj,binOp_quo,Op.intDiv,if_neg]
theorem Jnm{t:TypeId}{k:IntKind}{u v z:Int}(h:Q2q u v=some z)(w:World):(binOp .rem t (.int k u) (.int k v)).run P w=.ok (.int k z) w:=by
 simp_all [Q2q,Option.some.inj,binOp_rem,Op.intDiv,if_neg]
theorem Jnn{t:TypeId}{k k2:IntKind}{u v z:Int}(h:Jh1 k u v=some z)(w:World):(binOp .shr t (.int k u) (.int k2 v)).run P w=.ok (.int k z) w:=by
 simp_all [Jh1,Option.some.inj,binOp_shr,Op.shift,if_neg]
theorem Jno{t:TypeId}{k k2:IntKind}{u v z:Int}(h:Jd8 k u v=some z)(w:World):(binOp .shl t (.int k u) (.int k2 v)).run P w=.ok (.int k z) w:=by
 unfold Jd8 at h
 split at h
 ·cases h
 ·rename_i hv
  have:=Option.some.inj h; subst this
  show(Op.shift .shl k u k2 v).run P w=_
  simp_all [Op.shift,if_neg]
end
end Gd
