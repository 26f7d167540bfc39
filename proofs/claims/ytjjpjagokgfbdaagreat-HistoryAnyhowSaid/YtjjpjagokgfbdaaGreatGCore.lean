/- Decompilation core: typed readings of values, the state of a walk, and its frame. -/
import Derived.WalkKit
import Derived.KernelRfl
import Derived.Lib.AppendStr
import Derived.Lib.ConvBytes
import Derived.Orders
namespace Go
set_option linter.defProp false
def QQ := @Bool.and_eq_true
def QJ := @Nat.eq_of_beq_eq_true
def QX := @List.mem_cons
def QZ := @List.mem_append_left
def QK := @List.getElem?_eq_some_iff
def QV := @List.mem_append_right
def QW := @List.mem_append
def QY := @List.mem_map
def QU := @List.getElem?_eq_getElem
def QG := @List.pairwise_cons
def QH := @List.append_assoc
def QE := @Nat.zero_add
def QF := @Nat.le_of_ble_eq_true
def QA := @List.cons_append
def QB := @Nat.le_refl
def QC := @List.length_append
def QD := @List.nil_append
def QI := @Option.bind_some
def QM := @List.pairwise_append
def QN := @Nat.le_trans
def QO := @List.length_take
def QP := @Nat.add_mul
def QR := @List.append_nil
def QT := @Int.tdiv_eq_ediv_of_nonneg
def JQ := @List.getElem?_take_of_lt
def JJ := @List.eq_nil_of_length_eq_zero
def JX := @List.length_drop
def JZ := @List.getElem?_drop
def JK := @List.map_append
def JV := @List.map_cons
def JW := @List.take_append_drop
def JY := @Nat.beq_refl
def JU := @List.mem_filter
def JG := @Nat.lt_of_lt_of_le
def JH := @Nat.mul_le_mul_right
def JE := @List.getElem?_append_right
def JF := @List.getElem?_append_left
def JA := @List.nodup_cons
def JB := @Nat.zero_le
def JC := @Array.getD_eq_getD_getElem?
def JD := @List.getElem?_take
def JI := @List.length_cons
def JL := @Nat.lt_or_ge
def JM := @List.mem_of_getElem?
def JN := @List.all_eq_true
def JO := @List.length_nil
def JP := @List.take_of_length_le
def JR := @List.mem_singleton
def JS := @Bool.or_eq_true
def JT := @List.mem_range
def XQ := @Nat.eq_zero_or_pos
def XJ := @List.filterMap_append
def XX := @List.length_eq_zero_iff
def XZ := @List.perm_middle
def XK := @List.size_toArray
def XV := @List.perm_append_comm
def XW := @List.pairwise_singleton
def XY := @Bool.false_eq_true
def XU := @Option.map_some
def XG := @List.filter_cons
def XH := @List.drop_eq_getElem_cons
def XE := @List.filterMap_cons
def XF := @List.flatMap_cons
def XA := @Bool.not_eq_true'
def XB := @Nat.zero_mul
def XC := @List.getElem?_of_mem
def XD := @List.not_mem_nil
def XI := @Array.getElem?_eq_none
def XL := @List.drop_drop
def XM := @Array.getElem?_append_left
def XN := @List.drop_of_length_le
def XO := @List.pairwise_map
def XP := @Int.tmod_eq_emod_of_nonneg
def XR := @Array.length_toList
def XT := @Nat.ble_eq_true_of_le
def ZQ := @Array.getElem?_modify
def ZJ := @List.nodup_append
def ZX := @List.take_left
def ZZ := @List.getElem?_toArray
def ZK := @List.getElem?_eq_none
def ZV := @Array.getElem?_eq_getElem
def ZW := @Nat.min_eq_left
def ZY := @Bool.or_eq_false_iff
def ZU := @List.ext_getElem?
def ZG := @Nat.add_assoc
def ZH := @Option.bind_eq_some_iff
def ZE := @Nat.add_sub_cancel_left
def ZF := @Option.getD_some
def ZA := @List.take_zero
def ZB := @Nat.succ_le_succ
def ZC := @List.take_append_of_le_length
def ZD := @Nat.add_zero
def ZI := @List.zip_cons_cons
def ZL := @Array.getElem?_setIfInBounds
def ZM := @Array.getElem?_toList
def ZN := @List.length_filter_le
def ZO := @Array.getElem?_eq_some_iff
def ZP := @List.take_take
def ZR := @Nat.le_max_right
def ZS := @List.all_cons
def ZT := @Array.getElem?_replicate
def KQ := @List.length_map
def KJ := @Nat.le_mul_of_pos_right
def KX := @Option.map_eq_some_iff
def KZ := @Nat.le_of_eq
def KK := @Array.size_append
def KV := @Array.all_eq_true_iff_forall_mem
def KW := @List.drop_zero
def KY := @List.drop_left
def KU := @List.drop_take
def KG := @Int.toNat_natCast
def KH := @List.length_replicate
def KE := @List.take_append
def KF := @List.getElem_map
def KA := @Int.mul_le_mul_of_nonneg_right
def KB := @List.range'_succ
def KC := @List.take_length
def KD := @List.drop_length
def KI := @Bool.false_or
def KL := @Nat.mul_one
def KM := @List.mem_cons_of_mem
def KN := @Int.le_refl
def KP := @Nat.le_max_left
def KR := @Option.map_none
def KS := @Array.toList_append
def KT := @List.getElem_of_mem
def VQ := @Nat.add_comm
def VJ := @Nat.mod_lt
def VX := @List.getD_eq_getElem?_getD
def VZ := @Nat.max_le
def VK := @Array.mapM_eq_mapM_toList
def VV := @List.filterMap_eq_nil_iff
def VW := @List.pairwise_iff_getElem
def VY := @List.mem_or_eq_of_mem_set
def VU := @List.getElem?_map
def VG := @Nat.le_succ
def VH := @Nat.lt_succ_self
def VE := @List.getElem?_cons_zero
def VF := @List.getElem_mem
def VA := @List.map_nil
def VB := @List.drop_eq_nil_of_le
def VC := @List.length_eq_one_iff
def VD := @Nat.max_zero
def VI := @Bool.eq_iff_iff
def VL := @Bool.and_eq_false_iff
def VM := @List.eraseIdx_sublist
def VN := @Array.getElem?_mapIdx
def VO := @Array.toArray_toList
def VP := @List.mapM_cons
def VR := @Array.mem_toList_iff
def VS := @Array.size_replicate
def VT := @Nat.min_def
def WQ := @List.mem_of_mem_take
def WJ := @Array.getElem_toList
def WX := @List.getElem?_modify
def WZ := @List.flatten_append
def WK := @List.map_congr_left
def WV := @List.filterMap_some
def WW := @Bool.not_true
def WY := @Nat.ne_of_lt
def WU := @Int.le_trans
def WG := @Nat.zero_max
def WH := @Nat.one_mul
def Qwh(fz:Nat×Nat)(n:Nat):Prop:=fz=(0,0)∨fz=(n,n+1)
def World.ownsRowS(w:World)(base:Nat)(e:TypeId)(size:Nat)(v:Value)(n:Nat)(xs:List Value):Prop :=
  xs.length=n*size ∧
  ((v=.slice none 0 0∧n=0) ∨
   ∃g cap cur fz,v=.slice (some ⟨g,0,none⟩) n cap∧base≤g∧w.heap[g]?=some (.cells cur e fz)∧Qwh fz cur.size∧n≤cap∧cap≤maxLen∧cap*size≤cur.size∧cur.toList.take (n*size)=xs)
section
variable {w:World} {base:Nat} {e:TypeId} {size:Nat} {v:Value} {n:Nat} {xs:List Value}
theorem World.ownsRowS_nil(w:World)(base:Nat)(e:TypeId)(size:Nat):w.ownsRowS base e size (.slice none 0 0) 0 []:=⟨by simp,.inl ⟨rfl,rfl⟩⟩
theorem World.ownsRowS.lt(h:w.ownsRowS base e size v n xs):∀k,v.ownBlock=some k→base≤k∧k<w.heap.size:=by
 intro k hk
 rcases h.2 with⟨rfl,_⟩ | ⟨g,cap,cur,fz,rfl,hb,hg,_⟩
 ·simp[Value.ownBlock]at hk
 ·simp[Value.ownBlock]at hk
  subst hk
  exact⟨hb,(ZO.1 hg).1⟩
theorem World.ownsRowS.cells(h:w.ownsRowS base e size v n xs){g:Nat}(hg:v.ownBlock=some g):∀j u,xs[j]?=some u→w.cell? ((⟨g,0,none⟩:Addr).add j)=some u:=by
 intro j u hu
 rcases h.2 with⟨rfl,_⟩ | ⟨g',cap,cur,fz,rfl,_,hgg,_,_,_,_,htake⟩
 ·simp[Value.ownBlock]at hg
 ·simp[Value.ownBlock]at hg
  subst hg
  have hadd:(⟨g',0,none⟩:Addr).add j=⟨g',j,none⟩:=by unfold Addr.add; split<;>simp_all
  rw[hadd,cell_of_row w g' j cur e fz hgg]
  rw[←htake,JD]at hu
  split at hu
  ·simpa using hu
  ·cases hu
end
theorem Uy(P:Program)(g o:Nat)(t:TypeId)(fz:Nat×Nat):∀(vs:List Value) (i:Nat) (cur:Array Value) (w:World),w.heap[g]?=some (.cells cur t fz)→Qwh fz cur.size→o+i+vs.length≤cur.size→(∀v∈vs,v.oneCell'=true) →
  (storeCells ⟨g,o,none⟩ vs i).run P w=.ok () (w.setRow g (cur.toList.take (o+i)++vs++cur.toList.drop (o+i+vs.length)).toArray)
 | [],i,cur,w,hg,_,_,_=>by
  simp only[storeCells,QR,JO,ZD,JW,VO]
  rw[setRow_self w g cur t fz hg]
  rfl
 | v::rest,i,cur,w,hg,hfz,hl,h1=>by
  have hi:o+i<cur.size:=by simp at hl; omega
  have hadd:(⟨g,o,none⟩:Addr).add i=⟨g,o+i,none⟩:=by unfold Addr.add; split<;>simp_all
  have hcell:w.cell? ⟨g,o+i,none⟩=some cur[o+i]:=by simp[World.cell?,hg,hi]
  have hfro:w.frozen? ⟨g,o+i,none⟩=false:=by
   rcases hfz with rfl | rfl
   ·simp[World.frozen?,hg]
   ·simp only[World.frozen?,hg,VL,decide_eq_false_iff_not]
    left
    omega
  have hst:(store ((⟨g,o,none⟩:Addr).add i) v).run P w=.ok () (w.setRow g (cur.setIfInBounds (o+i) v)):=by
   rw[hadd,run_store P w _ v _ (h1 v (by simp)),hcell]
   simp[hfro,setCell_eq_setRow w g (o+i) cur t fz v hg]
  have ih:=Uy P g o t fz rest (i+1) (cur.setIfInBounds (o+i) v) (w.setRow g (cur.setIfInBounds (o+i) v)) (setRow_heap w g cur _ t _ hg) (by simpa using hfz) (by simp at hl ⊢; omega) (fun x hx=>h1 x (by simp[hx]))
  simp only[storeCells,Sem.run_bind,hst,Result.andThen_ok,ih,setRow_setRow]
  congr 3
  have e:=list_seg_step cur.toList (o+i) v rest (by simp at hl ⊢; omega)
  simpa[Array.toList_setIfInBounds,ZG]using e
end Go
namespace Gd
open Go Go.RowKit
set_option linter.unusedVariables false
set_option linter.unusedSimpArgs false
abbrev Ok:=Nat→Nat→Prop
structure Evo(ok:Ok)(w w':World):Prop where
 size:w.heap.size≤w'.heap.size
 cell:∀b o,ok b o→w'.cell? ⟨b,o,none⟩=w.cell? ⟨b,o,none⟩
 map:∀b es c,ok b 0→w.heap[b]?=some (.map es c)→w'.heap[b]?=some (.map es c)
def lt(w:World):Ok:=fun b _=>b<w.heap.size
theorem Evo.of_below{w w':World}(h:Below w.heap.size w w'):Evo (lt w) w w' :=
 ⟨h.size,fun b o hb=>h.cell (p:=⟨b,o,none⟩) hb,fun b es c hb hm=>by rw[h.block b hb]; exact hm⟩
theorem Evo.mono{ok ok':Ok}{w w':World}(h:Evo ok' w w')(hk:∀b o,ok b o→ok' b o):Evo ok w w' :=
 ⟨h.size,fun b o hb=>h.cell b o (hk b o hb),fun b es c hb hm=>h.map b es c (hk b 0 hb) hm⟩
theorem Evo.of_blocks{ok:Ok}{w w':World}(hs:w.heap.size≤w'.heap.size)(h:∀b o,ok b o→w'.heap[b]?=w.heap[b]?):Evo ok w w' :=
 ⟨hs,fun b o hb=>World.cell?_of_block (w:=w) (h b o hb),fun b es c hb hm=>by rw[h b 0 hb]; exact hm⟩
structure Uc(L:List Nat)(B:Nat)(w w':World):Prop where
 os:w'.os=w.os
 tape:w'.tape=w.tape
 output:w'.output=w.output
 size:w.heap.size≤w'.heap.size
 block:∀k,k<B→k∉L→w'.heap[k]?=w.heap[k]?
theorem Uc.refl(L:List Nat)(B:Nat)(w:World):Uc L B w w:=⟨rfl,rfl,rfl,QB _,fun _ _ _=>rfl⟩
theorem Uc.of(L:List Nat){B:Nat}{w w':World}(h:Below B w w'):Uc L B w w':=⟨h.os,h.tape,h.output,h.size,fun k hk _=>h.block k hk⟩
theorem Uc.nil{B:Nat}{w w':World}(h:Uc [] B w w'):Below B w w':=⟨h.os,h.tape,h.output,h.size,fun k hk=>h.block k hk (by simp)⟩
theorem Uc.trans{L:List Nat}{B:Nat}{a b c:World}(h:Uc L B a b)(k:Uc L B b c):Uc L B a c :=
 ⟨k.os.trans h.os,k.tape.trans h.tape,k.output.trans h.output,QN h.size k.size,fun i hi hn=>(k.block i hi hn).trans (h.block i hi hn)⟩
structure RT(τ:Type) where
 size:Nat
 agg:Bool
 rep:Ok→World→τ→List Value→Prop
 len:∀{ok w x cs},rep ok w x cs→cs.length=size
 one:agg=false→size=1
 flat:∀{ok w x cs},rep ok w x cs→∀c∈cs,c.oneCell'=true
 evo:∀{ok w w' x cs},rep ok w x cs→Evo ok w w'→rep ok w' x cs
 weak:∀{ok ok' w x cs},rep ok w x cs→(∀b o,ok b o→ok' b o)→rep ok' w x cs
def RT.val{τ:Type}(r:RT τ)(cs:List Value):Value:=if r.agg then .agg cs.toArray else cs.headD undef
def isV{τ:Type}(r:RT τ)(ok:Ok)(w:World)(x:τ)(v:Value):Prop:=∃cs,r.rep ok w x cs∧v=r.val cs
theorem isV.evo{τ:Type}{r:RT τ}{ok:Ok}{w w':World}{x:τ}{v:Value}(h:isV r ok w x v)(he:Evo ok w w'):isV r ok w' x v :=
 let⟨cs,hr,hv⟩:=h; ⟨cs,r.evo hr he,hv⟩
theorem isV.weak{τ:Type}{r:RT τ}{ok ok':Ok}{w:World}{x:τ}{v:Value}(h:isV r ok w x v)(hk:∀b o,ok b o→ok' b o):isV r ok' w x v :=
 let⟨cs,hr,hv⟩:=h; ⟨cs,r.weak hr hk,hv⟩
def Cy(ok:Ok)(w:World)(b o:Nat)(cs:List Value):Prop:=∀(j:Nat) u,cs[j]?=some u→ok b (o+j)∧w.cell? ⟨b,o+j,none⟩=some u
theorem Cy.evo{ok:Ok}{w w':World}{b o:Nat}{cs:List Value}(h:Cy ok w b o cs)(he:Evo ok w w'):Cy ok w' b o cs :=
 fun j u hu=>⟨(h j u hu).1,(he.cell _ _ (h j u hu).1).trans (h j u hu).2⟩
theorem Cy.weak{ok ok':Ok}{w:World}{b o:Nat}{cs:List Value}(h:Cy ok w b o cs)(hk:∀b o,ok b o→ok' b o):Cy ok' w b o cs :=
 fun j u hu=>⟨hk _ _ (h j u hu).1,(h j u hu).2⟩
def Qo9{τ:Type}(r:RT τ)(ok:Ok)(w:World)(x:τ)(p:Value):Prop :=
 ∃b o cs,p=.pointer (some ⟨b,o,none⟩)∧r.rep ok w x cs∧Cy ok w b o cs
theorem Qo9.evo{τ:Type}{r:RT τ}{ok:Ok}{w w':World}{x:τ}{v:Value}(h:Qo9 r ok w x v)(he:Evo ok w w'):Qo9 r ok w' x v :=
 let⟨b,o,cs,hv,hr,hc⟩:=h; ⟨b,o,cs,hv,r.evo hr he,hc.evo he⟩
theorem Qo9.weak{τ:Type}{r:RT τ}{ok ok':Ok}{w:World}{x:τ}{v:Value}(h:Qo9 r ok w x v)(hk:∀b o,ok b o→ok' b o):Qo9 r ok' w x v :=
 let⟨b,o,cs,hv,hr,hc⟩:=h; ⟨b,o,cs,hv,r.weak hr hk,hc.weak hk⟩
def Ti(k:IntKind):RT Int where
 size:=1
 agg:=false
 rep:=fun _ _ x cs=>cs=[.int k x]
 len:=by rintro _ _ x cs rfl; rfl
 one:=fun _=>rfl
 flat:=by rintro _ _ x cs rfl c hc; simp at hc; subst hc; rfl
 evo:=fun h _=>h
 weak:=fun h _=>h
def Qtp:RT Bool where
 size:=1
 agg:=false
 rep:=fun _ _ x cs=>cs=[.bool x]
 len:=by rintro _ _ x cs rfl; rfl
 one:=fun _=>rfl
 flat:=by rintro _ _ x cs rfl c hc; simp at hc; subst hc; rfl
 evo:=fun h _=>h
 weak:=fun h _=>h
abbrev Str:=List UInt8
def Yd(s:Str):Value:=.string ⟨s.toArray⟩
def Jov:RT Str where
 size:=1
 agg:=false
 rep:=fun _ _ x cs=>cs=[Yd x]
 len:=by rintro _ _ x cs rfl; rfl
 one:=fun _=>rfl
 flat:=by rintro _ _ x cs rfl c hc; simp at hc; subst hc; rfl
 evo:=fun h _=>h
 weak:=fun h _=>h
def Qzk{τ:Type}(r:RT τ)(ok:Ok)(w:World)(xs:List τ)(v:Value):Prop :=
 ∃A n c,v=.slice A n c∧xs.length=n∧n≤c ∧
  (0<n→∃b o,A=some ⟨b,o,none⟩∧∀i x,xs[i]?=some x→∃cs,r.rep ok w x cs∧Cy ok w b (o+i*r.size) cs)
def rSl{τ:Type}(r:RT τ):RT (List τ) where
 size:=1
 agg:=false
 rep:=fun ok w xs cs=>∃v,cs=[v]∧Qzk r ok w xs v
 len:=by rintro _ _ x cs ⟨v,rfl,_⟩; rfl
 one:=fun _=>rfl
 flat:=by rintro _ _ x cs ⟨v,rfl,A,n,c,rfl,_⟩ d hd; simp at hd; subst hd; rfl
 evo:=by
  rintro ok w w' xs cs ⟨v,rfl,A,n,c,rfl,hl,hc,hn⟩ he
  refine⟨_,rfl,A,n,c,rfl,hl,hc,fun h0=>?_⟩
  obtain⟨b,o,hA,hx⟩:=hn h0
  refine⟨b,o,hA,fun i x hi=>?_⟩
  obtain⟨cs,hr,ha⟩:=hx i x hi
  exact⟨cs,r.evo hr he,ha.evo he⟩
 weak:=by
  rintro ok ok' w xs cs ⟨v,rfl,A,n,c,rfl,hl,hc,hn⟩ hk
  refine⟨_,rfl,A,n,c,rfl,hl,hc,fun h0=>?_⟩
  obtain⟨b,o,hA,hx⟩:=hn h0
  refine⟨b,o,hA,fun i x hi=>?_⟩
  obtain⟨cs,hr,ha⟩:=hx i x hi
  exact⟨cs,r.weak hr hk,ha.weak hk⟩
theorem Jju{k:IntKind}{ok:Ok}{w:World}{x:Int}{v:Value}:isV (Ti k) ok w x v↔v=.int k x:=by
 constructor
 ·rintro⟨cs,rfl,rfl⟩; rfl
 ·rintro rfl; exact⟨_,rfl,rfl⟩
theorem Qpa{ok:Ok}{w:World}{x:Bool}{v:Value}:isV Qtp ok w x v↔v=.bool x:=by
 constructor
 ·rintro⟨cs,rfl,rfl⟩; rfl
 ·rintro rfl; exact⟨_,rfl,rfl⟩
theorem Jjv{ok:Ok}{w:World}{x:Str}{v:Value}:isV Jov ok w x v↔v=Yd x:=by
 constructor
 ·rintro⟨cs,rfl,rfl⟩; rfl
 ·rintro rfl; exact⟨_,rfl,rfl⟩
theorem Z3{τ:Type}{r:RT τ}{ok:Ok}{w:World}{xs:List τ}{v:Value}:isV (rSl r) ok w xs v↔Qzk r ok w xs v:=by
 constructor
 ·rintro⟨cs,⟨v',rfl,h⟩,rfl⟩; exact h
 ·intro h; exact⟨[v],⟨v,rfl,h⟩,rfl⟩
structure Fld(σ:Type) where
 τ:Type
 r:RT τ
 get:σ→τ
def Ka{τ:Type}(r:RT τ)(ok:Ok)(w:World):List τ→List Value→Prop
 | [],cs=>cs=[]
 | x::xs,cs=>∃c1 c2,cs=c1++c2∧r.rep ok w x c1∧Ka r ok w xs c2
theorem Qzl{τ:Type}{r:RT τ}{ok:Ok}{w:World}{xs:List τ}{cs:List Value}(h:Ka r ok w xs cs):cs.length=xs.length*r.size:=by
 induction xs generalizing cs with
 | nil=>simp only[Ka]at h; subst h; simp
 | cons x xs ih=>obtain⟨c1,c2,rfl,h1,h2⟩:=h; simp[r.len h1,ih h2,QP,VQ]
def Jev{τ:Type}(n:Nat)(r:RT τ):RT (List τ) where
 size:=n*r.size
 agg:=true
 rep:=fun ok w xs cs=>xs.length=n∧Ka r ok w xs cs
 len:=by rintro ok w xs cs ⟨rfl,h⟩; exact Qzl h
 one:=fun h=>by cases h
 flat:=by
  rintro ok w xs cs ⟨hl,h⟩
  clear hl
  induction xs generalizing cs with
  | nil=>simp only[Ka]at h; subst h; simp
  | cons f fs ih =>
   obtain⟨c1,c2,rfl,h1,h2⟩:=h
   intro c hc
   rcases QW.1 hc with hc | hc
   ·exact r.flat h1 c hc
   ·exact ih h2 c hc
 evo:=by
  rintro ok w w' xs cs ⟨hl,h⟩ he
  refine⟨hl,?_⟩
  clear hl
  induction xs generalizing cs with
  | nil=>exact h
  | cons f fs ih=>obtain⟨c1,c2,rfl,h1,h2⟩:=h; exact⟨c1,c2,rfl,r.evo h1 he,ih h2⟩
 weak:=by
  rintro ok ok' w xs cs ⟨hl,h⟩ he
  refine⟨hl,?_⟩
  clear hl
  induction xs generalizing cs with
  | nil=>exact h
  | cons f fs ih=>obtain⟨c1,c2,rfl,h1,h2⟩:=h; exact⟨c1,c2,rfl,r.weak h1 he,ih h2⟩
structure DF where
 p:Ok→World→Prop
 evo:∀{ok w w'},p ok w→Evo ok w w'→p ok w'
 weak:∀{ok ok' w},p ok w→(∀b o,ok b o→ok' b o)→p ok' w
def DF.v{τ:Type}(r:RT τ)(x:τ)(v:Value):DF:=⟨fun ok w=>isV r ok w x v,fun h he=>h.evo he,fun h hk=>h.weak hk⟩
def Qhs(ok:Ok)(w:World):List DF→Prop
 | []=>True
 | d::ds=>d.p ok w∧Qhs ok w ds
theorem Qhs.evo{ok:Ok}{w w':World}{D:List DF}(h:Qhs ok w D)(he:Evo ok w w'):Qhs ok w' D:=by
 induction D with
 | nil=>trivial
 | cons d ds ih=>exact⟨d.evo h.1 he,ih h.2⟩
theorem Qhs.weak{ok ok':Ok}{w:World}{D:List DF}(h:Qhs ok w D)(hk:∀b o,ok b o→ok' b o):Qhs ok' w D:=by
 induction D with
 | nil=>trivial
 | cons d ds ih=>exact⟨d.weak h.1 hk,ih h.2⟩
theorem Qhs.get{ok:Ok}{w:World}{D:List DF}(h:Qhs ok w D){i:Nat}{d:DF}(hi:D[i]?=some d):d.p ok w:=by
 induction D generalizing i with
 | nil=>simp at hi
 | cons e ds ih =>
  cases i with
  | zero=>simp at hi; subst hi; exact h.1
  | succ i=>simp at hi; exact ih h.2 hi
inductive AV where
 | v (x:Value)
 | o (id off:Nat)
structure HB where
 cs:List Value
 t:TypeId
def Jp{α:Type}:List (Nat×α)→Nat→Option α
 | [],_=>none
 | (k,x)::l,t=>bif Nat.beq k t then some x else Jp l t
theorem Qjr{α:Type}{l:List (Nat×α)}{t:Nat}{x:α}(h:Jp l t=some x):(t,x)∈l:=by
 induction l with
 | nil=>simp[Jp]at h
 | cons p l ih =>
  obtain⟨k,y⟩:=p
  simp only[Jp]at h
  cases hb:Nat.beq k t with
  | true=>rw[hb]at h; simp only[cond_true,Option.some.injEq]at h; subst h; have:=QJ hb; subst this; exact .head _
  | false=>rw[hb]at h; exact .tail _ (ih h)
def Qzm{α:Type}:List (Nat×α)→Nat→List (Nat×α)
 | [],_=>[]
 | (k,x)::l,t=>bif Nat.beq k t then Qzm l t else(k,x)::Qzm l t
theorem Jew{α:Type}{l:List (Nat×α)}{t:Nat}{p:Nat×α}(h:p∈Qzm l t):p∈l∧p.1≠t:=by
 induction l with
 | nil=>simp[Qzm]at h
 | cons q l ih =>
  obtain⟨k,y⟩:=q
  simp only[Qzm]at h
  cases hb:Nat.beq k t with
  | true=>rw[hb]at h; exact⟨.tail _ (ih h).1,(ih h).2⟩
  | false =>
   rw[hb]at h
   simp only[cond_false,QX]at h
   rcases h with rfl | h
   ·exact⟨.head _,fun e=>by simp only at e; subst e; simp[JY]at hb⟩
   ·exact⟨.tail _ (ih h).1,(ih h).2⟩
def Tj{α:Type}(l:List (Nat×α))(t:Nat)(x:α):List (Nat×α):=(t,x)::Qzm l t
def den(β:Nat→Nat):AV→Value
 | .v x=>x
 | .o id off=>.pointer (some ⟨β id,off,none⟩)
def Zt:Value→Nat
 | .slice _ n _=>n
 | _=>0
structure TL where
 blks:Nat→Prop
 cov:Nat→Nat→Prop
 cb:∀{b o},cov b o→blks b
 p:Ok→World→Prop
 keep:∀{ok w w'},p ok w→(∀g,blks g→w'.heap[g]?=w.heap[g]?)→Evo ok w w'→p ok w'
 weak:∀{ok ok' w},p ok w→(∀b o,ok b o→ok' b o)→p ok' w
 lt:∀{ok w},p ok w→∀g,blks g→g<w.heap.size
theorem Tk{base e s:Nat}{v:Value}{n:Nat}{xs:List Value}{w w':World}(hx:w.ownsRowS base e s v n xs)(hb:∀g,v.ownBlock=some g→w'.heap[g]?=w.heap[g]?):w'.ownsRowS base e s v n xs:=by
 refine⟨hx.1,?_⟩
 rcases hx.2 with h1 | ⟨g,cap,cur,fz,hv,hg,hh,r⟩
 ·exact .inl h1
 ·refine .inr ⟨g,cap,cur,fz,hv,hg,?_,r⟩
  rw[hb g (by rw[hv]; rfl)]; exact hh
def tl(v:Value)(e s:Nat):TL where
 blks:=fun g=>v.ownBlock=some g
 cov:=fun b o=>v.ownBlock=some b∧Zt v*s≤o
 cb:=fun h=>h.1
 p:=fun _ w=>∃xs,w.ownsRowS 0 e s v (Zt v) xs
 keep:=fun⟨xs,h⟩ hb _=>⟨xs,Tk h hb⟩
 weak:=fun h _=>h
 lt:=fun⟨_,h⟩ g hg=>(h.lt g hg).2
abbrev GL:=List (Nat×AV)
abbrev HL:=List (Nat×HB)
def Je(ok0:Ok)(B:Nat)(β:Nat→Nat)(H:HL)(O:List TL)(w:World):Ok:=fun b o =>
 (ok0 b o∨B≤b)∧b<w.heap.size∧(∀h∈H,β h.1≠b)∧(∀t∈O,¬ t.cov b o)
structure Cx where
 n:Nat
 ok:Ok
 w:World
 res:List Nat
 a0:Act
 pin:Option (Nat→Nat)
 lent:List Nat
 lok:∀g∈lent,∀o,ok g o
 dfs:List Deferred
def okL(L:List Nat)(ok:Ok):Ok:=fun b o=>ok b o∨b∈L
abbrev cxL(L:List Nat)(n:Nat)(ok:Ok)(w:World):Cx:=⟨n,okL L ok,w,[],⟨#[],[]⟩,none,L,fun _ hg _=>.inr hg,[]⟩
def Cx.mine(X:Cx)(g:Nat):Prop:=X.w.heap.size≤g∨g∈X.lent
theorem Cx.mine_ok{X:Cx}{g:Nat}(h:X.mine g)(o:Nat):X.ok g o∨X.w.heap.size≤g:=h.elim .inr fun h=>.inl (X.lok g h o)
def Qlw:List Nat→Nat→Bool
 | [],_=>true
 | k::l,t=>bif Nat.beq k t then false else Qlw l t
theorem Qzn{l:List Nat}{t:Nat}(h:Qlw l t=true):t∉l:=by
 induction l with
 | nil=>simp
 | cons k l ih =>
  simp only[Qlw]at h
  cases hb:Nat.beq k t with
  | true=>rw[hb]at h; cases h
  | false =>
   rw[hb]at h
   intro hm
   rcases QX.1 hm with rfl | hm
   ·simp[JY]at hb
   ·exact ih h hm
def okD(X:Cx)(d:Nat):Bool:=Nat.blt d X.n&&(Qlw X.res d&&Nat.blt d 100000)
theorem Tl{X:Cx}{d:Nat}(h:okD X d=true):d<X.n:=by
 simp only[okD,QQ]at h
 exact Nat.lt_of_succ_le (QF h.1)
theorem Qwi{X:Cx}{d:Nat}(h:okD X d=true):d∉X.res:=by
 simp only[okD,QQ]at h
 exact Qzn h.2.1
theorem Rg{X:Cx}{d:Nat}(h:okD X d=true):Nat.blt d 100000=true:=by
 simp only[okD,QQ]at h
 exact h.2.2
structure Sb(β:Nat→Nat)(X:Cx)(G:GL)(D:List DF)(H:HL)(O:List TL)(a:Act)(w:World):Prop where
 sz:a.tmps.size=X.n
 df:a.defers=X.dfs
 fr:∀t∈X.res,a.tmps[t]?=X.a0.tmps[t]?
 pn:∀f,X.pin=some f→∀h∈H,β h.1=f h.1
 tm:∀p∈G,a.tmps[p.1]?=some (den β p.2)
 bel:Uc X.lent X.w.heap.size X.w w
 dat:Qhs (Je X.ok X.w.heap.size β H O w) w D
 obj:∀h∈H,w.heap[β h.1]?=some (.cells h.2.cs.toArray h.2.t (0,0))∧X.mine (β h.1)
 own:∀t∈O,t.p (Je X.ok X.w.heap.size β H O w) w∧∀g,t.blks g→X.mine g
 dHH:∀h∈H,∀h'∈H,h.1≠h'.1→β h.1≠β h'.1
 dHO:∀h∈H,∀t∈O,¬ t.blks (β h.1)
 dOO:O.Pairwise fun s t=>∀g,s.blks g→¬ t.blks g
section
variable {β:Nat→Nat} {X:Cx} {G:GL} {D:List DF} {H:HL} {O:List TL} {a:Act} {w w':World}
theorem Qjs{ok0:Ok}(h:w.heap.size≤w'.heap.size){B:Nat}(b o:Nat):Je ok0 B β H O w b o→Je ok0 B β H O w' b o :=
 fun⟨h1,h2,h3,h4⟩=>⟨h1,by omega,h3,h4⟩
theorem Yg{w:World}{g:Nat}{o:Obj}(h:w.heap[g]?=some o):g<w.heap.size:=by
 rcases JL g w.heap.size with hlt | hge
 ·exact hlt
 ·rw[XI hge]at h; cases h
theorem Sb.olt(h:Sb β X G D H O a w){t:TL}(ht:t∈O){g:Nat}(hg:t.blks g):g<w.heap.size:=t.lt (h.own t ht).1 g hg
theorem Sb.hlt(h:Sb β X G D H O a w){p:Nat×HB}(hp:p∈H):β p.1<w.heap.size:=Yg (h.obj p hp).1
theorem Sb.below(h:Sb β X G D H O a w)(hb:Below w.heap.size w w'):Sb β X G D H O a w' where
 sz:=h.sz
 df:=h.df
 fr:=h.fr
 pn:=h.pn
 tm:=h.tm
 bel:=h.bel.trans (Uc.of _ (hb.mono h.bel.size))
 dat:=(h.dat.evo ((Evo.of_below hb).mono fun b o hk=>hk.2.1)).weak (Qjs hb.size)
 obj:=fun o ho=>⟨by rw[hb.block _ (Yg (h.obj o ho).1),(h.obj o ho).1],(h.obj o ho).2⟩
 own:=fun t ht=>⟨t.weak (t.keep (h.own t ht).1 (fun g hg=>hb.block g (h.olt ht hg)) ((Evo.of_below hb).mono fun b o hk=>hk.2.1)) (Qjs hb.size),(h.own t ht).2⟩
 dHH:=h.dHH
 dHO:=h.dHO
 dOO:=h.dOO
theorem Sb.act{a':Act}{G':GL}(h:Sb β X G D H O a w)(hs:a'.tmps.size=a.tmps.size)(hd:a'.defers=a.defers)(hr:∀t∈X.res,a'.tmps[t]?=a.tmps[t]?)
  (hg:∀p∈G',a'.tmps[p.1]?=some (den β p.2)):Sb β X G' D H O a' w :=
 { h with sz:=hs.trans h.sz,df:=hd.trans h.df,fr:=fun t ht=>(hr t ht).trans (h.fr t ht),tm:=hg }
theorem Sb.put(h:Sb β X G D H O a w){t:Nat}(ht:okD X t=true)(x:AV):Sb β X (Tj G t x) D H O (a.put (some t) (den β x)) w:=by
 refine h.act (by simp[Act.put]) rfl (fun k hk=>?_) fun p hp=>?_
 ·have hne:t≠k:=fun e=>Qwi ht (e▸hk)
  simp[Act.put,hne]
 simp only[Tj,QX]at hp
 rcases hp with rfl | hp
 ·simp[Act.put,h.sz,Tl ht]
 ·obtain⟨hp,hne⟩:=Jew hp
  have hne':t≠p.1:=fun e=>hne e.symm
  simp[Act.put,hne',h.tm p hp]
end
end Gd

/- The quiet operations of a walk, evaluated by a function; its soundness. -/
namespace Gd
open Go Go.RowKit
set_option linter.unusedVariables false
set_option linter.unusedSimpArgs false
structure TE where
 t:TypeId
 d:TypeDesc
 z:Value
 size:Nat
 bytes:Nat
abbrev Tab:=List TE
def Q4(P:Program):Tab→Prop
 | []=>True
 | e::T=>(((P.info? e.t).map (fun i=>(i.zero,i.size,i.bytes))=some (some e.z,e.size,e.bytes)∧P.underlying e.t=some e.d)∧(P.stoodInHeld e.t||P.eqGuardType P.depth e.t)=false)∧Q4 P T
def Qh:Tab→TypeId→Option TE
 | [],_=>none
 | e::T,t=>bif Nat.beq e.t t then some e else Qh T t
theorem Jl{P:Program}{T:Tab}(h:Q4 P T){t:TypeId}{e:TE}(he:Qh T t=some e) :
  (P.info? t).map (fun i=>(i.zero,i.size,i.bytes))=some (some e.z,e.size,e.bytes)∧P.underlying t=some e.d:=by
 induction T with
 | nil=>simp[Qh]at he
 | cons x T ih =>
  simp only[Qh]at he
  cases hb:Nat.beq x.t t with
  | true=>rw[hb]at he; simp only[cond_true,Option.some.injEq]at he; subst he; have:=QJ hb; subst this; exact h.1.1
  | false=>rw[hb]at he; exact ih h.2 he
theorem Qzo{P:Program}{T:Tab}(h:Q4 P T){t:TypeId}{e:TE}(he:Qh T t=some e):P.stoodInHeld t=false∧P.eqGuardType P.depth t=false:=by
 induction T with
 | nil=>simp[Qh]at he
 | cons x T ih =>
  simp only[Qh]at he
  cases hb:Nat.beq x.t t with
  | true=>rw[hb]at he; simp only[cond_true,Option.some.injEq]at he; subst he; have:=QJ hb; subst this; simpa[ZY]using h.1.2
  | false=>rw[hb]at he; exact ih h.2 he
theorem W0{P:Program}{T:Tab}(h:Q4 P T){t:TypeId}{e:TE}(he:Qh T t=some e) :
  ∃i,P.info? t=some i∧i.zero=some e.z∧i.size=e.size∧i.bytes=e.bytes:=by
 have:=(Jl h he).1
 cases hi:P.info? t with
 | none=>rw[hi]at this; simp at this
 | some i=>rw[hi]at this; simp at this; exact⟨i,rfl,this.1,this.2.1,this.2.2⟩
def X6:TypeDesc→Bool
 | .struct _ | .array _ _=>true
 | _=>false
section
variable {P:Program} {T:Tab} (hT:Q4 P T) (w:World)
include hT
theorem Qht{t:TypeId}{e:TE}(he:Qh T t=some e):∃i,(typeInfo t).run P w=.ok i w∧i.zero=some e.z∧i.size=e.size∧i.bytes=e.bytes:=by
 obtain⟨i,hi,h1,h2,h3⟩:=W0 hT he
 exact⟨i,by simp[typeInfo,hi],h1,h2,h3⟩
theorem J5{t:TypeId}{e:TE}(he:Qh T t=some e):(Go.sizeOf t).run P w=.ok e.size w:=by
 obtain⟨i,hi,h1,h2,h3⟩:=Qht hT w he
 simp[Go.sizeOf,hi,h2]
theorem Va{t:TypeId}{e:TE}(he:Qh T t=some e):(zeroValue t).run P w=.ok e.z w:=by
 obtain⟨i,hi,h1,h2,h3⟩:=Qht hT w he
 simp[zeroValue,hi,h1]
theorem Jw{t:TypeId}{e:TE}(he:Qh T t=some e):(underlying t).run P w=.ok e.d w :=
 run_underlying (Jl hT he).2 w
theorem Qtq{t:TypeId}{e:TE}(he:Qh T t=some e):(isAgg t).run P w=.ok (X6 e.d) w:=by
 simp only[isAgg,Sem.run_bind,Jw hT w he,Result.andThen_ok]
 cases e.d<;>rfl
theorem Qpb{t:TypeId}{e:TE}(he:Qh T t=some e)(cs:List Value)(off:Nat){v:Value}
  (hv:(if X6 e.d then some (.agg ((cs.drop off).take e.size).toArray)else cs[off]?)=some v):(part t cs.toArray off).run P w=.ok v w:=by
 simp only[part,Sem.run_bind,Qtq hT w he,Result.andThen_ok]
 cases ha:X6 e.d with
 | true =>
  rw[ha]at hv
  simp only[if_true,Option.some.injEq]at hv
  subst hv
  simp[J5 hT w he,List.take_drop]
 | false =>
  rw[ha]at hv
  simp at hv
  simp[hv]
theorem Qhu{t:TypeId}{e:TE}(he:Qh T t=some e)(b o:Nat)(cs:List Value)(hl:cs.length=e.size)(hone:X6 e.d=false→cs.length=1)
  (hc:∀(j:Nat) u,cs[j]?=some u→w.cell? ⟨b,o+j,none⟩=some u) :
  (loadVar t ⟨b,o,none⟩).run P w=.ok (if X6 e.d then .agg cs.toArray else cs.headD undef) w:=by
 simp only[loadVar,Sem.run_bind,Qtq hT w he,Result.andThen_ok]
 cases ha:X6 e.d with
 | true =>
  simp only[if_true,Sem.run_bind,J5 hT w he,Result.andThen_ok,←hl]
  rw[run_loadCells_list w ⟨b,o,none⟩ cs (fun j v hj=>by rw[Addr.add_lit]; exact hc j v hj)]
  simp
 | false =>
  have h1:=hone ha
  match cs,h1 with
  | [c],_ =>
   have:=hc 0 c rfl
   simp at this
   simp[this]
end
theorem Iq(β:Nat→Nat)(x:Value):den β (.v x)=x:=rfl
def gv(G:GL):Operand→Option AV
 | .tmp t=>Jp G t
 | .const v=>some (.v v)
 | .func f=>some (.v (.func (.func f) #[] #[]))
 | .global g=>some (.v (.pointer (some ⟨g,0,none⟩)))
def Q49(op:BinOp)(k:IntKind)(a b:Int):Option Value :=
 match op with
 | .add=>some (.int k (k.wrap (a+b)))
 | .sub=>some (.int k (k.wrap (a - b)))
 | .mul=>some (.int k (k.wrap (a*b)))
 | .eql=>some (.bool (a==b))
 | .neq=>some (.bool (a != b))
 | .lss=>some (.bool (decide (a<b)))
 | .leq=>some (.bool (decide (a≤b)))
 | .gtr=>some (.bool (decide (a>b)))
 | .geq=>some (.bool (decide (a≥b)))
 | .and=>some (.int k (Go.bits .and k a b))
 | .or=>some (.int k (Go.bits .or k a b))
 | .xor=>some (.int k (Go.bits .xor k a b))
 | .andNot=>some (.int k (Go.bits .andNot k a b))
 | _=>none
def Qwj(op:BinOp)(k:IntKind)(a:Int):Int→Option Value
 | .ofNat (b+1)=>match op with
  | .quo=>some (.int k (k.wrap (a.tdiv (.ofNat (b+1)))))
  | .rem=>some (.int k (a.tmod (.ofNat (b+1))))
  | _=>none
 | _=>none
def Q5a(op:BinOp)(a b:Str):Option Value :=
 match op with
 | .eql=>some (.bool (a==b))
 | .neq=>some (.bool !(a==b))
 | .lss=>some (.bool (Op.bytesLess a b))
 | .leq=>some (.bool (Op.bytesLess a b||a==b))
 | .gtr=>some (.bool !(Op.bytesLess a b||a==b))
 | .geq=>some (.bool !(Op.bytesLess a b))
 | _=>none
def Rh:IntKind→IntKind→Bool
 | .i8,.i8 | .i16,.i16 | .i32,.i32 | .i64,.i64 | .u8,.u8 | .u16,.u16 | .u32,.u32 | .u64,.u64=>true
 | _,_=>false
theorem C3{a b:IntKind}(h:Rh a b=true):a=b:=by cases a<;>cases b<;>simp_all [Rh]
def Jl4:BinOp→Bool
 | .quo | .rem=>true
 | _=>false
def Qoj(T:Tab)(t:TypeId):Bool :=
 match Qh T t with
 | some ⟨_,.bool,_,_,_⟩=>true
 | _=>false
def Qpc(T:Tab)(op:BinOp)(t:TypeId)(x y:Value):Option Value :=
 match x,y with
 | .int k a,.int k' b=>bif Rh k k' then(bif Jl4 op then Qwj op k a b else Q49 op k a b)else none
 | .bool a,.bool b=>bif Qoj T t then(match op with
  | .eql=>some (.bool (a==b))
  | .neq=>some (.bool (a != b))
  | _=>none)else none
 | .string ⟨⟨a⟩⟩,.string ⟨⟨b⟩⟩=>Q5a op a b
 | _,_=>none
def Jex(op:UnOp)(x:Value):Option Value :=
 match op,x with
 | .neg,.int k n=>some (.int k (k.wrap (0 - n)))
 | .not,.bool b=>some (.bool !b)
 | _,_=>none
def Js6(c:Bool)(x y:Option AV):Option AV :=
 match x,y with
 | some (.v (.bool p)),some (.v (.bool q))=>some (.v (.bool (bif c then p else q)))
 | _,_=>match c with
  | true=>x
  | false=>y
def Qpd(T:Tab)(fs:Array Field)(f:Nat):Option Nat :=
 match fs[f]? with
 | some fd=>match Qh T fd.type with
  | some ⟨_,_,_,_+1,_⟩=>some fd.offset
  | _=>none
 | none=>none
def Qhv(T:Tab):List Field→Option (List (Nat×Nat))
 | []=>some []
 | f::fs=>match Qh T f.type,Qhv T fs with
  | some e,some ps=>some ((f.offset,e.size)::ps)
  | _,_=>none
def evParts(G:GL):List (Nat×Operand)→Option (List (Nat×Value))
 | []=>some []
 | (i,x)::xs=>match gv G x,evParts G xs with
  | some (.v v),some vs=>some ((i,v)::vs)
  | _,_=>none
def Qzp(cs:List Value)(off:Nat)(vs:List Value):List Value:=cs.take off++vs++cs.drop (off+vs.length)
def Qu:Value→List Value
 | .agg ⟨cs⟩=>cs
 | v=>[v]
theorem Vn(v:Value):Qu v=v.cells.toList:=by cases v<;>rfl
def Nz(ps:Nat→Option (Nat×Nat))(cs:List Value):List (Nat×Value)→Option (List Value)
 | []=>some cs
 | (i,v)::rest=>match ps i with
  | none=>none
  | some (off,size) =>
   bif Nat.beq (Qu v).length size&&Nat.ble (off+(Qu v).length) cs.length then Nz ps (Qzp cs off (Qu v)) rest else none
section
variable {P:Program} {T:Tab} {β:Nat→Nat} {X:Cx} {G:GL} {D:List DF} {H:HL} {O:List TL} {a:Act} {w w':World}
theorem Sb.ev(h:Sb β X G D H O a w){x:Operand}{v:AV}(hx:gv G x=some v):a.eval x=den β v:=by
 cases x with
 | tmp t =>
  have:=h.tm _ (Qjr hx)
  simp only at this
  simp[Act.eval,this]
 | const v=>simp[gv]at hx; subst hx; rfl
 | func f=>simp[gv]at hx; subst hx; rfl
 | global g=>simp[gv]at hx; subst hx; rfl
theorem Jan{op:BinOp}{t:TypeId}{a b:Str}{v:Value}(h:Q5a op a b=some v):(binOp op t (.string ⟨⟨a⟩⟩) (.string ⟨⟨b⟩⟩))=(pure v:Sem Value):=by
 have ha:(ByteArray.mk ⟨a⟩).toList=a:=ByteArray.toList_mk a
 have hb:(ByteArray.mk ⟨b⟩).toList=b:=ByteArray.toList_mk b
 cases op<;>simp[Q5a]at h<;>subst h<;>simp[binOp,Op.stringOp,ha,hb]
theorem Jao{op:BinOp}{t:TypeId}{k:IntKind}{a b:Int}{v:Value}(h:Q49 op k a b=some v):(binOp op t (.int k a) (.int k b))=(pure v:Sem Value):=by
 cases op<;>simp[Q49]at h<;>subst h<;>simp[binOp,Op.intArith,Op.intCmp]<;>rfl
theorem Q5b{op:BinOp}{t:TypeId}{k:IntKind}{a b:Int}{v:Value}(h:Qwj op k a b=some v):(binOp op t (.int k a) (.int k b))=(pure v:Sem Value):=by
 unfold Qwj at h
 split at h
 ·rename_i m
  have hm:(Int.ofNat (m+1))≠0:=by simp only[Int.ofNat_eq_natCast]; omega
  cases op<;>first | (simp at h; done) | skip
  ·simp only[Option.some.injEq]at h; subst h; rw[binOp_quo]; unfold Op.intDiv; rw[if_neg hm]
  ·simp only[Option.some.injEq]at h; subst h; rw[binOp_rem]; unfold Op.intDiv; rw[if_neg hm]
 ·cases h
theorem Q5c(hT:Q4 P T){t:TypeId}(h:Qoj T t=true):P.underlying t=some .bool:=by
 unfold Qoj at h
 split at h
 ·rename_i he; exact(Jl hT he).2
 ·cases h
theorem Q5d{t:TypeId}(ht:P.underlying t=some .bool)(a b:Bool)(w:World):(Op.equal t (.bool a) (.bool b)).run P w=.ok (a==b) w:=by
 have h:∀d:Nat,(Op.equalIn (d+1) t (.bool a) (.bool b)).run P w=.ok (a==b) w:=fun d=>by
  simp[Op.equalIn,run_underlying ht]
 exact h 9999
theorem Jap(hT:Q4 P T){op:BinOp}{t:TypeId}{x y v:Value}(h:Qpc T op t x y=some v)(w:World):(binOp op t x y).run P w=.ok v w:=by
 unfold Qpc at h
 split at h
 ·rename_i k a k' b
  cases hk:Rh k k' with
  | false=>rw[hk]at h; cases h
  | true =>
   rw[hk]at h
   have:=C3 hk
   subst this
   simp only[cond_true]at h
   cases hd:Jl4 op with
   | true=>rw[hd]at h; rw[Q5b h]; rfl
   | false=>rw[hd]at h; rw[Jao h]; rfl
 ·rename_i a b
  cases hb:Qoj T t with
  | false=>rw[hb]at h; cases h
  | true =>
   rw[hb]at h
   have hu:=Q5c hT hb
   cases op<;>simp at h<;>subst h<;>simp[binOp,Q5d hu]
   cases a<;>cases b<;>rfl
 ·rw[Jan h]; rfl
 ·cases h
theorem Jey{op:UnOp}{x v:Value}(h:Jex op x=some v)(w:World):(Op.unary op x).run P w=.ok v w:=by
 unfold Jex at h
 split at h<;>simp at h<;>subst h<;>simp[Op.unary,Op.intArith]
theorem Qwk{op:BinOp}{t:TypeId}{x y:Value}{p q:Operand}{v:Value}(h:Qpc T op t x y=some v):eqGuard op t p q x y=pure ():=by
 unfold Qpc at h
 split at h
 ·exact eqGuard_at_int _ _ _ _ _ _ _
 ·exact eqGuard_at_bool _ _ _ _ _ _
 ·exact eqGuard_at_string _ _ _ _ _ _
 ·cases h
theorem Qzq{fs:Array Field}{f k:Nat}(h:Qpd T fs f=some k):∃fd,fs[f]?=some fd∧fd.offset=k∧∃e,Qh T fd.type=some e∧e.size≠0:=by
 unfold Qpd at h
 split at h
 ·rename_i fd hf
  split at h
  ·rename_i he
   simp at h
   exact⟨fd,hf,h,_,he,by simp⟩
  ·cases h
 ·cases h
theorem Jez(l:List UInt8):(ByteArray.mk ⟨l⟩).size=l.length:=rfl
theorem Qpe(hT:Q4 P T):∀{fs:List Field} {ps:List (Nat×Nat)},Qhv T fs=some ps→fs.mapM (fun f=>(P.info? f.type).map fun i=>(f.offset,i.size))=some ps
 | [],ps,h=>by simp[Qhv]at h; subst h; rfl
 | f::fs,ps,h=>by
  simp only[Qhv]at h
  split at h
  ·rename_i e ps' he hp
   simp at h; subst h
   obtain⟨i,hi,_,hs,_⟩:=W0 hT he
   simp[VP,hi,hs,Qpe hT hp]
  ·cases h
theorem Qgc(h:Sb β X G D H O a w):∀{xs:List (Nat×Operand)} {vs:List (Nat×Value)},evParts G xs=some vs→xs.map (fun p=>(p.1,a.eval p.2))=vs
 | [],vs,hv=>by simp[evParts]at hv; subst hv; rfl
 | (i,x)::xs,vs,hv=>by
  simp only[evParts]at hv
  split at hv
  ·rename_i v us h1 h2
   simp at hv; subst hv
   simp[h.ev h1,Iq,Qgc h h2]
  ·cases hv
theorem Jjw(cs:List Value)(off:Nat)(vs:List Value)(hle:off+vs.length≤cs.length) :
  (vs.toArray.zipIdx.foldl (fun cs (c,j)=>cs.setIfInBounds (off+j) c) cs.toArray)=(Qzp cs off vs).toArray:=by
 have key:∀(vs:List Value) (k:Nat) (cs:List Value),off+k+vs.length≤cs.length →
   (vs.zipIdx k).foldl (fun(cs:Array Value) (p:Value×Nat)=>cs.setIfInBounds (off+p.2) p.1) cs.toArray=(cs.take (off+k)++vs++cs.drop (off+k+vs.length)).toArray:=by
  intro vs
  induction vs with
  | nil=>intro k cs _; simp
  | cons v vs ih =>
   intro k cs hl
   simp only[List.zipIdx_cons,List.foldl_cons,JI]at hl ⊢
   have hlt:off+k<cs.length:=by omega
   rw[List.setIfInBounds_toArray,ih (k+1) _ (by simp; omega)]
   congr 1
   have e1:off+(k+1)=off+k+1:=by omega
   rw[e1,List.take_set,List.drop_set_of_lt (by omega)]
   rw[List.take_succ_eq_append_getElem hlt,List.set_append_right _ _ (by simp; omega)]
   simp only[QO,ZW (Nat.le_of_lt hlt),Nat.sub_self,List.set_cons_zero]
   have e2:off+k+1+vs.length=off+k+(vs.length+1):=by omega
   rw[e2]
   simp
 have:=key vs 0 cs (by simpa using hle)
 simp only[ZD]at this
 rw[←Array.foldl_toList]
 simpa[Qzp]using this
theorem Ri(ps:Nat→Option (Nat×Nat)):∀{vs:List (Nat×Value)} {cs cs':List Value},Nz ps cs vs=some cs'→Instr.fill ps cs.toArray vs=some cs'.toArray
 | [],cs,cs',h=>by simp[Nz]at h; subst h; rfl
 | (i,v)::rest,cs,cs',h=>by
  simp only[Nz]at h
  split at h
  ·cases h
  ·rename_i off size hp
   rw[Vn]at h
   cases hb:(Nat.beq v.cells.toList.length size&&Nat.ble (off+v.cells.toList.length) cs.length)with
   | false=>rw[hb]at h; cases h
   | true =>
    rw[hb]at h
    simp only[cond_true]at h
    simp only[QQ]at hb
    have h1:=QJ hb.1
    have h2:=QF hb.2
    have:=Ri ps h
    simp only[XR]at h1 h2
    unfold Instr.fill
    simp only[hp]
    rw[if_neg (by simp; omega)]
    have hl:=Jjw cs off v.cells.toList (by simpa using h2)
    simp only[VO]at hl
    rw[hl]
    exact this
end
end Gd

/- Sequences of quiet operations, new objects and stores into them. -/
namespace Gd
open Go Go.RowKit
set_option linter.unusedVariables false
set_option linter.unusedSimpArgs false
def B3(ops:Array Oper)(G:GL)(o:Oper):Option Bool :=
 match o.guard with
 | none=>some true
 | some (j,want)=>match ops[j]? with
  | some p=>match p.dst with
   | some t=>match Jp G t with
    | some (.v (.bool b))=>some (b==want)
    | some (.v (.tuple _))=>some false
    | _=>none
   | none=>none
  | none=>none
section
variable {P:Program} {T:Tab} {β:Nat→Nat} {X:Cx} {G:GL} {D:List DF} {H:HL} {O:List TL} {a:Act} {w w':World}
theorem Kh(h:Sb β X G D H O a w){ops:Array Oper}{o:Oper}{g:Bool}(hg:B3 ops G o=some g):Region.wanted o (yielded ops a.tmps)=g:=by
 unfold B3 at hg
 unfold Region.wanted
 split at hg
 ·rename_i hn; rw[hn]; simpa using hg
 ·rename_i j want hn
  rw[hn]
  split at hg
  ·rename_i p hp
   split at hg
   ·rename_i t ht
    split at hg
    ·rename_i b hb
     simp at hg
     have:=h.tm _ (Qjr hb)
     simp only[Iq]at this
     have hy:yielded ops a.tmps j=some b:=by simp[yielded,hp,ht,this]
     show(yielded ops a.tmps j==some want)=g
     rw[hy,←hg]
     cases b<;>cases want<;>rfl
    ·rename_i hb
     simp at hg
     have:=h.tm _ (Qjr hb)
     simp only[Iq]at this
     have hy:yielded ops a.tmps j=none:=by simp[yielded,hp,ht,this]
     show(yielded ops a.tmps j==some want)=g
     rw[hy,hg]; rfl
    ·cases hg
   ·cases hg
  ·cases hg
theorem Jk{ops:Array Oper}{Q:Exit→Act→World→Prop}{rest:List Oper}{o:Oper}(hw:Region.wanted o (yielded ops a.tmps)=true)
  (h:o.wp P a w (wpList P ops Q rest) Q):wpList P ops Q (o::rest) a w:=by
 unfold wpList
 rw[if_pos hw]
 exact .inl h
theorem Yn{o:Oper}{next:Act→World→Prop}{Q:Exit→Act→World→Prop}{v:Value}(hr:(execOp a.eval o).run P w=.ok (.value v) w')(h:next (a.put o.dst v) w') :
  o.wp P a w next Q:=by
 unfold Oper.wp; rw[hr]; exact h
end
end Gd

/- Steps of a walk that read data, call, append. -/
namespace Gd
open Go Go.RowKit
set_option linter.unusedVariables false
set_option linter.unusedSimpArgs false
section
variable {P:Program} {T:Tab} {β:Nat→Nat} {X:Cx} {G:GL} {D:List DF} {H:HL} {O:List TL} {a:Act} {w w':World}
theorem Sb.d(h:Sb β X G D H O a w)(i:Nat){d:DF}(hi:D[i]?=some d):d.p (Je X.ok X.w.heap.size β H O w) w:=h.dat.get hi
theorem Sb.addD(h:Sb β X G D H O a w){d:DF}(hd:d.p (Je X.ok X.w.heap.size β H O w) w):Sb β X G (d::D) H O a w:={ h with dat:=⟨hd,h.dat⟩ }
section steps
variable {ops:Array Oper} {Q:Exit→Act→World→Prop} {rest:List Oper} {o:Oper}
theorem Je0{τ:Type}{r:RT τ}{ok:Ok}{w:World}{xs:List τ}{A:Option Addr}{m c:Nat}(h:Qzk r ok w xs (.slice A m c)){i:Nat}{x:τ}(hx:xs[i]?=some x) :
  ∃b o,A=some ⟨b,o,none⟩∧i<m∧Qo9 r ok w x (.pointer (some ⟨b,o+i*r.size,none⟩)):=by
 obtain⟨A',m',c',hv,hl,hc,hn⟩:=h
 injection hv with e1 e2 e3
 subst e1; subst e2; subst e3
 have hi:i<m:=by rw[←hl]; exact(QK.1 hx).1
 obtain⟨b,o,hA,hcs⟩:=hn (by omega)
 obtain⟨cs,hr,ha⟩:=hcs i x hx
 exact⟨b,o,hA,hi,b,_,cs,rfl,hr,ha⟩
def okx(ok:Ok)(w w':World):Ok:=fun b o=>ok b o∨(w.heap.size≤b∧b<w'.heap.size)
def Qwl(L:List Nat)(w:World)(R:Value→World→Prop):Ending→World→Prop:=fun e w'=>∃v,e=.returned v∧R v w'∧Uc L w.heap.size w w'
abbrev Ret(w:World)(R:Value→World→Prop):Ending→World→Prop:=Qwl [] w R
def Runs(P:Program)(f:FuncId):Prop:=∃fn,P.funcs[f]?=some fn∧fn.name ≠ "runtime.NumGoroutine" ∧ fn.body.isNone=false
theorem Qhw{f:FuncId}(hf:Runs P f)(args:Array Value)(w:World):(callFunc f args).run P w=.ok (.enter f args) w:=by
 obtain⟨fn,h1,h2,h3⟩:=hf
 have h2':(fn.name == "runtime.NumGoroutine")=false:=by simpa using h2
 obtain⟨c,hc⟩:∃c,fn.body=some c:=by
  cases hb:fn.body with
  | none=>rw[hb]at h3; cases h3
  | some c=>exact⟨c,rfl⟩
 simp[callFunc,h1,h2,hc]
end steps
theorem Tm{c:Code}{Q:Exit→Act→World→Prop}(I:Nat→Act→World→Prop)(m:Nat)(h0:I m a w)
  (round:∀m a w,I m a w→c.wp P (Exit.then (fun a' w'=>∃k,k<m∧I k a' w') Q) a w):(Code.loop c).wp P Q a w:=by
 intro b k cs
 have key:∀m a w,I m a w→∃e a' w',Q e a' w'∧Arrives P (lone (b.at a (.code c::.inLoop c::k)) cs w) b k cs e a' w':=by
  intro m
  induction m using Nat.strongRecOn with
  | _ m ih =>
   intro a w hI
   obtain⟨e,a₁,w₁,hq,harr⟩:=round m a w hI b (.inLoop c::k) cs
   cases e with
   | normal =>
    obtain⟨k',hlt,hI₁⟩:=hq
    obtain⟨e₂,a₂,w₂,hq₂,harr₂⟩:=ih k' hlt a₁ w₁ hI₁
    exact⟨e₂,a₂,w₂,hq₂,.of_steps (Steps.trans harr (.one step_inLoop)) harr₂⟩
   | exit id=>exact⟨_,a₁,w₁,hq,.pass (x:=.inLoop c) rfl (fun _ _=>.inl (by simp)) harr⟩
   | goto l=>exact⟨_,a₁,w₁,hq,.pass (x:=.inLoop c) rfl (fun _ _=>.inl (by simp)) harr⟩
   | ret=>exact⟨_,a₁,w₁,hq,.pass (x:=.inLoop c) rfl (fun _ _=>.inl (by simp)) harr⟩
   | panic ch=>exact⟨_,a₁,w₁,hq,.pass (x:=.inLoop c) rfl (fun _ _=>.inl (by simp)) harr⟩
   | outgrown=>exact⟨_,a₁,w₁,hq,.pass (x:=.inLoop c) rfl (fun _ _=>.inl (by simp)) harr⟩
 obtain⟨e,a',w',hq,harr⟩:=key m a w h0
 exact⟨e,a',w',hq,.of_steps (.one step_loop) harr⟩
def Qzr:List Value→Nat→GL
 | [],_=>[]
 | v::vs,i=>(i,.v v)::Qzr vs (i+1)
theorem Qzs{vs:List Value}{i:Nat}{p:Nat×AV}(h:p∈Qzr vs i):∃j v,p=(i+j,.v v)∧vs[j]?=some v:=by
 induction vs generalizing i with
 | nil=>simp[Qzr]at h
 | cons v vs ih =>
  simp only[Qzr,QX]at h
  rcases h with rfl | h
  ·exact⟨0,v,rfl,rfl⟩
  ·obtain⟨j,u,rfl,hu⟩:=ih h
   exact⟨j+1,u,by rw[ZG,VQ 1 j],hu⟩
end
end Gd
namespace Gd
open Go Go.RowKit
section
variable {P:Program} {T:Tab} {β:Nat→Nat} {X:Cx} {G:GL} {D:List DF} {H:HL} {O:List TL} {a:Act} {w w':World}
end
def idx{α:Type}(xs:List α)(i:Int):Option α:=if 0≤i then xs[i.toNat]? else none
theorem W5{α:Type}{xs:List α}{i:Int}{x:α}(h:idx xs i=some x):0≤i∧xs[i.toNat]?=some x:=by
 unfold idx at h
 split at h
 ·exact⟨by assumption,h⟩
 ·cases h
def B4(s:Str)(i:Int):Option Int:=(idx s i).map fun c=>(c.toNat:Int)
theorem Jjx{s:Str}{i:Int}{x:Int}(h:B4 s i=some x):0≤i∧∃c,s[i.toNat]?=some c∧x=(c.toNat:Int):=by
 obtain⟨c,hc,rfl⟩:=KX.1 h
 exact⟨(W5 hc).1,c,(W5 hc).2,rfl⟩
theorem Yi{α β:Type}{o:Option α}{f:α→Option β}{r:β}(h:o.bind f=some r):∃x,o=some x∧f x=some r:=ZH.1 h
theorem Jl5{τ:Type}{r:RT τ}{ok:Ok}{w:World}:isV (rSl r) ok w [] (.slice none 0 0):=Z3.2 ⟨none,0,0,rfl,rfl,QB _,fun h=>absurd h (by omega)⟩
theorem Qjt{τ:Type}{r:RT τ}{ok:Ok}{w:World}{xs:List τ}{v:Value}(h:isV (rSl r) ok w xs v):∃A c,v=.slice A xs.length c∧isV (rSl r) ok w xs (.slice A xs.length c):=by
 obtain⟨A,n,c,rfl,hl,r⟩:=Z3.1 h
 subst hl
 exact⟨A,c,rfl,h⟩
end Gd

/- More steps: elements, appends, new slices. -/
namespace Gd
open Go Go.RowKit
set_option linter.unusedVariables false
set_option linter.unusedSimpArgs false
section
variable {P:Program} {T:Tab} {β:Nat→Nat} {X:Cx} {G:GL} {D:List DF} {H:HL} {O:List TL} {a:Act} {w w':World}
variable {ops:Array Oper} {Q:Exit→Act→World→Prop} {rest:List Oper} {o:Oper}
end
end Gd
namespace Gd
open Go Go.RowKit
def R1{τ:Type}(r:RT τ)(ok:Ok)(w:World)(y:τ):Value→World→Prop:=fun v w'=>isV r (okx ok w w') w' y v
end Gd
namespace Gd
open Go Go.RowKit
section
variable {P:Program} {T:Tab} {β:Nat→Nat} {X:Cx} {G:GL} {D:List DF} {H:HL} {O:List TL} {a:Act} {w w':World}
variable {ops:Array Oper} {Q:Exit→Act→World→Prop} {rest:List Oper} {o:Oper}
end
end Gd

/- New slices, appends, parts of slices and strings. -/
namespace Gd
open Go Go.RowKit Go.Lib
set_option linter.unusedVariables false
set_option linter.unusedSimpArgs false
def Qsu{τ:Type}(r:RT τ)(ok:Ok)(w:World):List τ→List Value→Prop
 | [],[]=>True
 | x::xs,v::vs=>isV r ok w x v∧Qsu r ok w xs vs
 | _,_=>False
theorem Q5e{τ:Type}{r:RT τ}{ok:Ok}{w:World}{x:τ}{cs:List Value}(h:r.rep ok w x cs):Qu (r.val cs)=cs:=by
 unfold RT.val
 cases ha:r.agg with
 | true=>rfl
 | false =>
  have h1:=r.len h
  rw[r.one ha]at h1
  match cs,h1 with
  | [c],_ =>
   have:=r.flat h c (by simp)
   cases c<;>first | rfl | (simp[Value.oneCell']at this)
theorem B5{τ:Type}{r:RT τ}{ok:Ok}{w:World}{x:τ}{v:Value}(h:isV r ok w x v):r.rep ok w x (Qu v):=by
 obtain⟨cs,hr,rfl⟩:=h
 rw[Q5e hr]; exact hr
theorem Qzt{τ:Type}{r:RT τ}{ok:Ok}{w:World}:∀{xs:List τ} {vs:List Value},Qsu r ok w xs vs→(vs.flatMap Qu).length=xs.length*r.size∧vs.length=xs.length
 | [],[],_=>by simp
 | x::xs,v::vs,h=>by
  have h1:=r.len (B5 h.1)
  have h2:=Qzt h.2
  simp[h1,h2.1,h2.2,QP]; omega
theorem Q7u{τ:Type}{r:RT τ}{ok:Ok}{w:World}:∀{xs:List τ} {vs:List Value},Qsu r ok w xs vs→∀(i:Nat) (x:τ),xs[i]?=some x →
  ∃cs,r.rep ok w x cs∧∀(j:Nat) u,cs[j]?=some u→(vs.flatMap Qu)[i*r.size+j]?=some u
 | [],[],_,i,x,hx=>by simp at hx
 | y::ys,v::vs,h,i,x,hx=>by
  have h1:=r.len (B5 h.1)
  cases i with
  | zero =>
   simp at hx; subst hx
   refine⟨Qu v,B5 h.1,fun j u hu=>?_⟩
   have hj:=(QK.1 hu).1
   simp only[XF,XB,QE]
   rw[JF hj]; exact hu
  | succ i =>
   simp at hx
   obtain⟨cs,hr,hc⟩:=Q7u h.2 i x hx
   refine⟨cs,hr,fun j u hu=>?_⟩
   simp only[XF]
   rw[JE (by rw[h1,QP]; omega),h1]
   have:(i+1)*r.size+j - r.size=i*r.size+j:=by rw[QP]; omega
   rw[this]
   exact hc j u hu
section
variable {P:Program} {T:Tab} {β:Nat→Nat} {X:Cx} {G:GL} {D:List DF} {H:HL} {O:List TL} {a:Act} {w w':World}
variable {ops:Array Oper} {Q:Exit→Act→World→Prop} {rest:List Oper}
theorem Sb.fresh(h:Sb β X G D H O a w){τ:Type}{r:RT τ}{xs:List τ}{cs:List Value}{tail:List Value}(e:TypeId)(c:Nat)
  (hc:∀(i:Nat) (x:τ),xs[i]?=some x→∃ds,r.rep (Je X.ok X.w.heap.size β H O w) w x ds∧∀(j:Nat) u,ds[j]?=some u→cs[i*r.size+j]?=some u)
  (hl:xs.length≤c) (w':World) (hb:Below w.heap.size w w') {fr:Nat×Nat} (hw':w'.heap[w.heap.size]?=some (.cells (cs++tail).toArray e fr)) :
  isV (rSl r) (Je X.ok X.w.heap.size β H O w') w' xs (.slice (some ⟨w.heap.size,0,none⟩) xs.length c):=by
 have hb':Evo (Je X.ok X.w.heap.size β H O w) w w':=(Evo.of_below hb).mono fun _ _ hk=>hk.2.1
 have hlt:w.heap.size<w'.heap.size:=Yg hw'
 refine Z3.2 ⟨_,_,_,rfl,rfl,hl,fun _=>⟨_,0,rfl,fun i x hx=>?_⟩⟩
 obtain⟨ds,hr,hd⟩:=hc i x hx
 refine⟨ds,r.weak (r.evo hr hb') (Qjs hb.size),fun j u hu=>⟨⟨.inr h.bel.size,hlt,fun p hp=>?_,fun t ht hcv=>?_⟩,?_⟩⟩
 ·exact WY (h.hlt hp)
 ·exact Nat.lt_irrefl _ (h.olt ht (t.cb hcv))
 ·have:=hd j u hu
  have hj:=(QK.1 this).1
  simp only[World.cell?,hw',QE,Option.isSome_none,XY,if_false]
  rw[ZZ,JF hj]
  exact this
def Qcd(size:Nat):Nat→Option (Nat×Nat):=fun i=>some (i*size,size)
def Uz(z:List Value)(m:Nat):List Value:=(List.range m).map fun j=>z.getD (j % z.length) undef
theorem Qm6(hT:Q4 P T)(h:Sb β X G D H O a w){t:TypeId}{len:Nat}{parts:List (Nat×Operand)}{d:Nat}{ps:String}{af:Array Edge}{ty:TypeId}{gd:Option (Nat×Bool)}
  (hg:B3 ops G ⟨some d,.buildSlice t len ⟨parts⟩,ty,ps,af,gd⟩=some true) (hlt:okD X d=true)
  {τ:Type} {r:RT τ} {xs:List τ} {vs:List Value} {pvs:List (Nat×Value)} (hpv:evParts G parts=some pvs)
  {e:TypeId} {te ee:TE} (ht:Qh T t=some te) (htd:te.d=.slice e) (he:Qh T e=some ee) (hs:ee.size=r.size) (hxl:xs.length=len)
  (hsm:Nat.ble (len*ee.size) 16777216=true) (hps:Nat.ble 1 (len*ee.size)=true) (hz:Nat.beq (Qu ee.z).length ee.size=true)
  (hfill:Nz (Qcd ee.size) (Uz (Qu ee.z) (len*ee.size)) pvs=some (vs.flatMap Qu))
  (hv:Qsu r (Je X.ok X.w.heap.size β H O w) w xs vs)
  (hk:∀A c a' w',isV (rSl r) (Je X.ok X.w.heap.size β H O w') w' xs (.slice A xs.length c)→Sb β X (Tj G d (.v (.slice A xs.length c))) D H O a' w'→wpList P ops Q rest a' w') :
  wpList P ops Q (⟨some d,.buildSlice t len ⟨parts⟩,ty,ps,af,gd⟩::rest) a w:=by
 have hrun:(execOp a.eval ⟨some d,.buildSlice t len ⟨parts⟩,ty,ps,af,gd⟩).run P w=.ok (.value (.slice (some ⟨w.heap.size,0,none⟩) xs.length len)) (w.alloc (.cells (vs.flatMap Qu).toArray e)):=by
  have hev:=Qgc h hpv
  have hm:(Array.mk parts).map (fun(x:Nat×Operand)=>(x.1,a.eval x.2))=⟨pvs⟩:=by rw[←hev]; simp
  have hun:(underlying t).run P w=.ok (.slice e) w:=by rw[Jw hT w ht,htd]
  have h16:¬ len*ee.size>16777216:=by have:=QF hsm; omega
  have hzl:=QJ hz
  have hf:Instr.fill (fun i=>some (i*ee.size,ee.size)) (Uz (Qu ee.z) (len*ee.size)).toArray pvs=some (vs.flatMap Qu).toArray:=Ri _ hfill
  have hzz:(Array.range (len*ee.size)).map (fun x=>ee.z.cells[x % ee.z.cells.size]!)=(Uz (Qu ee.z) (len*ee.size)).toArray:=by
   rw[Vn]
   unfold Uz
   apply Array.ext
   ·simp
   ·intro i h1 h2
    have hi:i<len*ee.size:=by simpa using h1
    have hne:0<ee.size:=by
     rcases XQ ee.size with h0 | h0
     ·rw[h0]at hi; omega
     ·exact h0
    have hzs:ee.z.cells.size=ee.size:=by rw[←hzl,Vn]; simp
    have hmod:i % ee.z.cells.size<ee.z.cells.size:=VJ _ (by omega)
    simp[getElem!_pos,hmod]
  unfold execOp
  simp only[Instr.buildSlice,Sem.run_bind,hun,J5 hT w he,Result.andThen_ok,hm]
  have h0:¬ len*ee.size=0:=by have:=QF hps; omega
  have h00:len≠0:=fun e=>h0 (by rw[e,XB])
  have h01:ee.size≠0:=fun e=>h0 (by rw[e,Nat.mul_zero])
  simp[h16,h00,h01,Va hT w he,hzz,hf,newRow,hxl]
  exact fun e=>absurd e h0
 refine Jk (Kh h hg) (Yn hrun ?_)
 have hb:Below w.heap.size w (w.alloc (.cells (vs.flatMap Qu).toArray e)):=(Below.refl _ _).alloc (QB _) _
 refine hk _ len _ _ ?_ ((h.below hb).put hlt (.v _))
 exact h.fresh (tail:=[]) e len (Q7u hv) (by omega) _ hb (by rw[QR]; exact heap_alloc_new w _)
def app{α:Type}(bytes:Nat)(xs ys:List α):Option (List α):=if(xs.length+ys.length)*bytes≤140737488355328 then some (xs++ys)else none
theorem Qju{α:Type}{bytes:Nat}{xs ys zs:List α}(h:app bytes xs ys=some zs):(xs.length+ys.length)*bytes≤140737488355328∧zs=xs++ys:=by
 unfold app at h
 split at h
 ·exact⟨by assumption,(Option.some.inj h).symm⟩
 ·cases h
theorem Lu:maxLen=9223372036854775807:=rfl
theorem Qjv(t ty e:TypeId)(i:TypeInfo)(ht:P.underlying t=some (.slice e))(hi:P.info? e=some i)
  (g sLen sCap:Nat) (cur:Array Value) (fz:Nat×Nat) (hg:w.heap[g]?=some (.cells cur e fz)) (hfz:Qwh fz cur.size)
  (a:Addr) (m c:Nat) (news:List Value) (hl:news.length=m*i.size) (hnews:∀j u,news[j]?=some u→w.cell? (a.add j)=some u) (h1:∀u∈news,u.oneCell'=true)
  (hroom:sLen+m≤sCap) (hfit:sLen*i.size+news.length≤cur.size) :
  (Builtin.append_ #[t,t] ty #[.slice (some ⟨g,0,none⟩) sLen sCap,.slice (some a) m c]).run P w =
   .ok (.slice (some ⟨g,0,none⟩) (sLen+m) sCap) (w.setRow g (cur.toList.take (sLen*i.size)++news++cur.toList.drop (sLen*i.size+news.length)).toArray):=by
 have hf:=run_firstCells_some (P:=P) w i.size m a m c news hl hnews
 have hst:=Uy P g (sLen*i.size) e fz news 0 cur w hg hfz (by simpa using hfit) h1
 simp only[ZD]at hst
 simp[Builtin.append_,run_underlying ht,Go.sizeOf,typeInfo,hi,Builtin.lenOf,hroom,hf,Addr.add_lit,hst]
theorem Qce(t u ty e:TypeId)(i:TypeInfo)(ht:P.underlying t=some (.slice e))(hu:P.underlying u=some .string)(hi:P.info? e=some i)(hs1:i.size=1)
  (g sLen sCap:Nat) (cur:Array Value) (fz:Nat×Nat) (hg:w.heap[g]?=some (.cells cur e fz)) (hfz:Qwh fz cur.size) (s:ByteArray)
  (hroom:sLen+s.size≤sCap) (hfit:sLen+s.size≤cur.size) :
  (Builtin.append_ #[t,u] ty #[.slice (some ⟨g,0,none⟩) sLen sCap,.string s]).run P w =
   .ok (.slice (some ⟨g,0,none⟩) (sLen+s.size) sCap) (w.setRow g (cur.toList.take sLen++strCells s++cur.toList.drop (sLen+s.size)).toArray):=by
 have hf:=run_firstCells_string (P:=P) w 1 s
 have hst:=Uy P g sLen e fz (strCells s) 0 cur w hg hfz (by simpa[strCells_length]using hfit) (strCells_oneCell s)
 simp only[ZD,strCells_length]at hst
 simp[Builtin.append_,run_underlying ht,run_underlying hu,Go.sizeOf,typeInfo,hi,hs1,Builtin.lenOf,hroom,hf,Addr.add_lit,hst]
theorem Qcf{base:Nat}{t u ty e:TypeId}{i:TypeInfo}(ht:P.underlying t=some (.slice e))(hu:P.underlying u=some .string)(hi:P.info? e=some i)(hz:i.zero=some (.int .u8 0))
  (hsize:i.size=1) (hby:i.bytes=1) {v:Value} {n:Nat} {xs:List Value} (hown:w.ownsRowS base e 1 v n xs) (s:ByteArray) (hbytes:n+s.size≤140737488355328) (hbase:base≤w.heap.size) :
  ∃v' w',(Builtin.append_ #[t,u] ty #[v,.string s]).run P w=.ok v' w'∧w'.ownsRowS base e 1 v' (n+s.size) (xs++strCells s)∧w.grownBy w' v.ownBlock ∧
   ((v'.ownBlock=v.ownBlock)∨(v'.ownBlock=some w.heap.size∧Below w.heap.size w w')):=by
 have h63:n+s.size≤maxLen:=by rw[Lu]; omega
 have hxl:xs.length=n:=by simpa using hown.1
 have hlen:(xs++strCells s).length=(n+s.size)*1:=by rw[QC,hxl,strCells_length,KL]
 have grown:∀(old:Nat),old<n+s.size →
   (w.drew.alloc (.cells (xs.toArray++(strCells s).toArray++Builtin.zeroCells (Value.int .u8 0).cells (grownCap w (n+s.size) old e - (n+s.size))) e)).ownsRowS base e 1
    (.slice (some ⟨w.heap.size,0,none⟩) (n+s.size) (grownCap w (n+s.size) old e)) (n+s.size) (xs++strCells s) ∧
   Below w.heap.size w (w.drew.alloc (.cells (xs.toArray++(strCells s).toArray++Builtin.zeroCells (Value.int .u8 0).cells (grownCap w (n+s.size) old e - (n+s.size))) e)):=by
  intro old ho
  have hge:=grownCap_ge w (n+s.size) old e
  have hcm:grownCap w (n+s.size) old e≤maxLen:=grownCap_le_maxLen w (n+s.size) old e h63
  refine⟨⟨hlen,.inr ⟨w.heap.size,_,_,(0,0),rfl,hbase,heap_alloc_new w.drew _,.inl rfl,hge,hcm,?_,?_⟩⟩,((Below.refl _ _).drew.alloc (QB _) _)⟩
  ·refine KZ (Eq.symm ?_)
   simp only[KK,XK,size_zeroCells,hxl,strCells_length]
   simp[Value.cells]
   omega
  ·simp only[KS,QH]
   rw[←QH,←hlen]
   exact ZX
 rcases hown.2 with⟨rfl,rfl⟩ | ⟨g,cap,cur,fz,rfl,hbg,hg,hfz,hnc,hcm,hcs,htake⟩
 ·have hx0:xs=[]:=JJ hxl
  subst hx0
  by_cases hs0:s.size=0
  ·refine⟨.slice none 0 0,w,?_,⟨hlen,.inl ⟨rfl,by omega⟩⟩,⟨rfl,rfl,rfl,QB _,fun _ _ _=>rfl⟩,.inl rfl⟩
   simp[Builtin.append_,run_underlying ht,run_underlying hu,Go.sizeOf,typeInfo,hi,Builtin.lenOf,hs0,Builtin.firstCells]
  ·have hr:=run_append_nil_string (P:=P) w t u ty e i (.int .u8 0) ht hu hi hz s (by omega) (by omega) (by rw[hby]; omega)
   have e0:s.data.map (fun b=>Value.int .u8 (b.toNat:Int))=(strCells s).toArray:=by apply Array.ext'; simp[strCells]
   rw[e0]at hr
   obtain⟨g1,g2⟩:=grown 0 (by omega)
   simp only[QE,QD,Array.empty_append]at g1 g2 ⊢
   exact⟨_,_,hr,g1,⟨g2.os,g2.tape,g2.output,g2.size,fun b hb _=>g2.block b hb⟩,.inr ⟨rfl,g2⟩⟩
 ·by_cases hroom:n+s.size≤cap
  ·have hcs':cap≤cur.size:=by simpa using hcs
   have hr:=Qce (P:=P) (w:=w) t u ty e i ht hu hi hsize g n cap cur fz hg hfz s hroom (by omega)
   have hsz:(cur.toList.take n++strCells s++cur.toList.drop (n+s.size)).toArray.size=cur.size:=by
    simp only[XK,QC,QO,JX,XR,strCells_length]; omega
   refine⟨_,_,hr,⟨hlen,.inr ⟨g,cap,_,fz,rfl,hbg,setRow_heap w g cur _ e _ hg,by rw[hsz]; exact hfz,hroom,hcm,by rw[hsz]; exact hcs,?_⟩⟩,⟨rfl,rfl,rfl,by simp,fun b _ hb=>setRow_other w g b _ (fun e=>hb (by simp[Value.ownBlock,e]))⟩,.inl rfl⟩
   have ht':cur.toList.take n=xs:=by simpa using htake
   rw[ht',←hlen]
   exact ZX
  ·have holds:∀j u,xs[j]?=some u→w.cell? ((⟨g,0,none⟩:Addr).add j)=some u:=hown.cells (g:=g) rfl
   have hr:=run_append_grow_string (P:=P) w t u ty e i (.int .u8 0) ht hu hi hz ⟨g,0,none⟩ n cap xs (by rw[hsize]; simpa using hxl) holds s (by omega) (by omega) (by rw[hby]; exact growslice_fits (by omega) (by omega))
   obtain⟨g1,g2⟩:=grown cap (by omega)
   exact⟨_,_,hr,g1,⟨g2.os,g2.tape,g2.output,g2.size,fun b hb _=>g2.block b hb⟩,.inr ⟨rfl,g2⟩⟩
theorem Qgd(hT:Q4 P T){base:Nat}{t ty e:TypeId}{te ee:TE}(ht:Qh T t=some te)(htd:te.d=.slice e)(he:Qh T e=some ee)
  (hz:(Qu ee.z).length=ee.size) (hsz:0<ee.size) (hby:0<ee.bytes) {v:Value} {m:Nat} {xs:List Value} (hown:w.ownsRowS base e ee.size v m xs) (hbase:base≤w.heap.size)
  {A:Option Addr} {k c:Nat} {news:List Value} (hl:news.length=k*ee.size) (hA:A=none→k=0) (hnews:∀ad,A=some ad→∀j u,news[j]?=some u→w.cell? (ad.add j)=some u)
  (h1:∀u∈news,u.oneCell'=true) (hbytes:(m+k)*ee.bytes≤140737488355328) :
  ∃v' w',(Builtin.append_ ⟨[t,t]⟩ ty ⟨[v,.slice A k c]⟩).run P w=.ok v' w'∧w'.ownsRowS base e ee.size v' (m+k) (xs++news)∧w.grownBy w' v.ownBlock ∧
   ((v'.ownBlock=v.ownBlock)∨(v'.ownBlock=some w.heap.size∧Below w.heap.size w w')):=by
 have hu:P.underlying t=some (.slice e):=by rw[(Jl hT ht).2,htd]
 obtain⟨i,hi,hz',hs',hb'⟩:=W0 hT he
 have hzs:ee.z.cells.size=ee.size:=by rw[←hz,Vn]; simp
 have hmk:m+k≤140737488355328:=QN (KJ _ hby) hbytes
 rw[←hs']at hl hown hsz hzs ⊢
 rw[←hb']at hbytes
 have hlen:(xs++news).length=(m+k)*i.size:=by rw[QC,hown.1,hl,QP]
 cases A with
 | none =>
  have hk:=hA rfl
  subst hk
  have hn:news=[]:=JJ (by simpa using hl)
  subst hn
  refine⟨v,w,?_,by simpa using hown,⟨rfl,rfl,rfl,QB _,fun _ _ _=>rfl⟩,.inl rfl⟩
  rcases hown.2 with⟨rfl,rfl⟩ | ⟨g,cap,cur,fz,rfl,_,_,_,hnc,_⟩
  ·simp[Builtin.append_,run_underlying hu,Go.sizeOf,typeInfo,hi,Builtin.lenOf,Builtin.firstCells]
  ·simp[Builtin.append_,run_underlying hu,Go.sizeOf,typeInfo,hi,Builtin.lenOf,Builtin.firstCells,hnc,storeCells]
 | some ad =>
  have hn:=hnews ad rfl
  have grown:∀old:Nat,old<m+k →
    (w.drew.alloc (.cells (xs.toArray++news.toArray++Builtin.zeroCells ee.z.cells (grownCap w (m+k) old e - (m+k))) e)).ownsRowS base e i.size
     (.slice (some ⟨w.heap.size,0,none⟩) (m+k) (grownCap w (m+k) old e)) (m+k) (xs++news) ∧
    Below w.heap.size w (w.drew.alloc (.cells (xs.toArray++news.toArray++Builtin.zeroCells ee.z.cells (grownCap w (m+k) old e - (m+k))) e)):=by
   intro old ho
   have hge:=grownCap_ge w (m+k) old e
   have hcm:grownCap w (m+k) old e≤maxLen:=grownCap_le_maxLen w (m+k) old e (by rw[Lu]; omega)
   refine⟨⟨hlen,.inr ⟨w.heap.size,_,_,(0,0),rfl,hbase,heap_alloc_new w.drew _,.inl rfl,hge,hcm,?_,?_⟩⟩,((Below.refl _ _).drew.alloc (QB _) _)⟩
   ·refine KZ (Eq.symm ?_)
    simp only[KK,XK,size_zeroCells,hzs,hown.1,hl,←QP]
    congr 1; omega
   ·simp only[KS,QH]
    rw[←QH,←hlen]
    exact ZX
  rcases hown.2 with⟨rfl,rfl⟩ | ⟨g,cap,cur,fz,rfl,hbg,hg,hfz,hnc,hcm,hcs,htake⟩
  ·have hx:xs=[]:=JJ (by simpa using hown.1)
   subst hx
   by_cases hk0:k=0
   ·subst hk0
    have hn0:news=[]:=JJ (by simpa using hl)
    subst hn0
    refine⟨.slice none 0 0,w,?_,World.ownsRowS_nil w base e i.size,⟨rfl,rfl,rfl,QB _,fun _ _ _=>rfl⟩,.inl rfl⟩
    simp[Builtin.append_,run_underlying hu,Go.sizeOf,typeInfo,hi,Builtin.lenOf,Builtin.firstCells,loadCells,loadCellsFrom]
   ·have hr:=run_append_nil (P:=P) w t ty e i ee.z hu hi hz' ad k c news hl hn (by omega) (by omega) (by have hb:=hbytes; simp only[QE]at hb; omega)
    obtain⟨g1,g2⟩:=grown 0 (by omega)
    simp only[QE,QD,Array.empty_append]at g1 g2 ⊢
    exact⟨_,_,hr,g1,⟨g2.os,g2.tape,g2.output,g2.size,fun b hb _=>g2.block b hb⟩,.inr ⟨rfl,g2⟩⟩
  ·by_cases hroom:m+k≤cap
   ·have hfit:m*i.size+news.length≤cur.size:=by rw[hl,←QP]; exact QN (JH _ hroom) hcs
    have hr:=Qjv (P:=P) (w:=w) t ty e i hu hi g m cap cur fz hg hfz ad k c news hl hn h1 hroom hfit
    have hszr:(cur.toList.take (m*i.size)++news++cur.toList.drop (m*i.size+news.length)).toArray.size=cur.size:=by
     simp only[XK,QC,QO,JX,XR]; omega
    refine⟨_,_,hr,⟨hlen,.inr ⟨g,cap,_,fz,rfl,hbg,setRow_heap w g cur _ e _ hg,by rw[hszr]; exact hfz,hroom,hcm,by rw[hszr]; exact hcs,?_⟩⟩,⟨rfl,rfl,rfl,by simp,fun b _ hb=>setRow_other w g b _ (fun e=>hb (by simp[Value.ownBlock,e]))⟩,.inl rfl⟩
    rw[htake,←hlen]
    exact ZX
   ·have holds:∀j u,xs[j]?=some u→w.cell? ((⟨g,0,none⟩:Addr).add j)=some u:=hown.cells (g:=g) rfl
    have hr:=run_append_grow (P:=P) w t ty e i ee.z hu hi hz' ⟨g,0,none⟩ m cap xs hown.1 holds ad k c news hl hn (by omega) (by omega) (growslice_fits (by omega) hbytes)
    obtain⟨g1,g2⟩:=grown cap (by omega)
    exact⟨_,_,hr,g1,⟨g2.os,g2.tape,g2.output,g2.size,fun b hb _=>g2.block b hb⟩,.inr ⟨rfl,g2⟩⟩
end
end Gd

/- The step of append; parts of slices and strings; conversions. -/
namespace Gd
open Go Go.RowKit
set_option linter.unusedVariables false
set_option linter.unusedSimpArgs false
section
variable {P:Program} {T:Tab} {β:Nat→Nat} {X:Cx} {G:GL} {D:List DF} {H:HL} {O:List TL} {a:Act} {w w':World}
variable {ops:Array Oper} {Q:Exit→Act→World→Prop} {rest:List Oper}
theorem Qzu{τ:Type}{r:RT τ}{ok:Ok}{w:World}{b o:Nat}:∀(xs:List τ) (k:Nat),
  (∀i x,xs[i]?=some x→∃cs,r.rep ok w x cs∧Cy ok w b (o+(k+i)*r.size) cs) →
  ∃cs:List Value,cs.length=xs.length*r.size∧(∀c∈cs,c.oneCell'=true)∧(∀(j:Nat) u,cs[j]?=some u→ok b (o+k*r.size+j)∧w.cell? ⟨b,o+k*r.size+j,none⟩=some u) ∧
   ∀i x,xs[i]?=some x→∃ds,r.rep ok w x ds∧∀(j:Nat) u,ds[j]?=some u→cs[i*r.size+j]?=some u
 | [],k,_=>⟨[],by simp,by simp,by simp,by simp⟩
 | x::xs,k,h=>by
  obtain⟨d0,hr0,hc0⟩:=h 0 x rfl
  obtain⟨cs,hl,h1,hc,hi⟩:=Qzu xs (k+1) (fun i y hy=>by
   have:=h (i+1) y (by simpa using hy)
   rw[show k+(i+1)=k+1+i from by omega]at this
   exact this)
  have hl0:=r.len hr0
  refine⟨d0++cs,by simp[hl,hl0,QP]; omega,?_,?_,?_⟩
  ·intro c hcm
   rcases QW.1 hcm with hcm | hcm
   ·exact r.flat hr0 c hcm
   ·exact h1 c hcm
  ·intro j u hu
   by_cases hj:j<d0.length
   ·rw[JF hj]at hu
    have:=hc0 j u hu
    simpa using this
   ·rw[JE (by omega)]at hu
    have:=hc _ u hu
    rw[hl0]at this
    have e:o+(k+1)*r.size+(j - r.size)=o+k*r.size+j:=by rw[QP]; omega
    rw[e]at this
    exact this
  ·intro i y hy
   cases i with
   | zero =>
    simp at hy; subst hy
    refine⟨d0,hr0,fun j u hu=>?_⟩
    have hj:=(QK.1 hu).1
    rw[XB,QE,JF hj]; exact hu
   | succ i =>
    obtain⟨ds,hr,hd⟩:=hi i y (by simpa using hy)
    refine⟨ds,hr,fun j u hu=>?_⟩
    rw[JE (by rw[hl0,QP]; omega),hl0]
    have e:(i+1)*r.size+j - r.size=i*r.size+j:=by rw[QP]; omega
    rw[e]
    exact hd j u hu
theorem N0{τ:Type}{r:RT τ}{ok:Ok}{xs:List τ}{A:Option Addr}{m c:Nat}(h:Qzk r ok w xs (.slice A m c)) :
  ∃cs:List Value,cs.length=m*r.size∧xs.length=m∧m≤c∧(A=none→m=0)∧(∀c∈cs,c.oneCell'=true) ∧
   (0<m→∃b o,A=some ⟨b,o,none⟩∧∀(j:Nat) u,cs[j]?=some u→ok b (o+j)∧w.cell? ⟨b,o+j,none⟩=some u) ∧
   ∀i x,xs[i]?=some x→∃ds,r.rep ok w x ds∧∀(j:Nat) u,ds[j]?=some u→cs[i*r.size+j]?=some u:=by
 obtain⟨A',m',c',hv,hl,hc,hn⟩:=h
 injection hv with e1 e2 e3
 subst e1; subst e2; subst e3
 rcases XQ m with h0 | h0
 ·have hx:xs=[]:=JJ (by omega)
  subst hx
  exact⟨[],by simp[h0],hl,hc,fun _=>h0,by simp,fun h=>absurd h (by omega),by simp⟩
 ·obtain⟨b,o,rfl,hx⟩:=hn h0
  obtain⟨cs,hcl,h1,hcc,hi⟩:=Qzu (r:=r) (ok:=ok) (w:=w) (b:=b) (o:=o) xs 0 (fun i x hx'=>by rw[QE]; exact hx i x hx')
  refine⟨cs,by rw[hcl,hl],hl,hc,fun e=>by simp at e,h1,fun _=>⟨b,o,rfl,fun j u hu=>?_⟩,hi⟩
  have:=hcc j u hu
  simpa using this
def Qzv{τ:Type}(r:RT τ)(ok:Ok)(w:World)(xs:List τ)(A:Option Addr)(m c:Nat):Prop :=
 ∃cs:List Value,cs.length=m*r.size∧xs.length=m∧m≤c∧(A=none→m=0)∧(∀c∈cs,c.oneCell'=true) ∧
  (0<m→∃b o,A=some ⟨b,o,none⟩∧∀(j:Nat) u,cs[j]?=some u→w.cell? ⟨b,o+j,none⟩=some u) ∧
  ∀i x,xs[i]?=some x→∃ds,r.rep ok w x ds∧∀(j:Nat) u,ds[j]?=some u→cs[i*r.size+j]?=some u
theorem Q7v{τ:Type}{r:RT τ}{ok:Ok}{xs:List τ}{A:Option Addr}{m c:Nat}(h:isV (rSl r) ok w xs (.slice A m c)):Qzv r ok w xs A m c:=by
 obtain⟨cs,h1,h2,h3,h4,h5,h6,h7⟩:=N0 (Z3.1 h)
 exact⟨cs,h1,h2,h3,h4,h5,fun hm=>let⟨b,o,e,hc⟩:=h6 hm; ⟨b,o,e,fun j u hu=>(hc j u hu).2⟩,h7⟩
theorem Qzv.weak{τ:Type}{r:RT τ}{ok ok':Ok}{xs:List τ}{A:Option Addr}{m c:Nat}(h:Qzv r ok w xs A m c)(hk:∀b o,ok b o→ok' b o):Qzv r ok' w xs A m c:=by
 obtain⟨cs,h1,h2,h3,h4,h5,h6,h7⟩:=h
 exact⟨cs,h1,h2,h3,h4,h5,h6,fun i x hx=>let⟨ds,q1,q2⟩:=h7 i x hx; ⟨ds,r.weak q1 hk,q2⟩⟩
theorem Fr(A:Option Addr)(n n' c c':Nat):(Value.slice A n c).ownBlock=(Value.slice A n' c').ownBlock:=by cases A<;>rfl
theorem Hw(b o j:Nat):(⟨b,o,none⟩:Addr).add j=⟨b,o+j,none⟩:=Addr.add_lit b o j
theorem Qzw(hT:Q4 P T)(h:Sb β X G D H O a w)(kx ky:Nat)(O1 O2:List TL){t:TypeId}{s x:Operand}{d:Nat}{ps:String}{af:Array Edge}{ty:TypeId}{gd:Option (Nat×Bool)}
  (hg:B3 ops G ⟨some d,.call ⟨.builtin .append,⟨[s,x]⟩,⟨[t,t]⟩⟩,ty,ps,af,gd⟩=some true) (hlt:okD X d=true)
  {τ:Type} {r:RT τ} {xs ys zs:List τ} {A:Option Addr} {A2:Option Addr} {m c m2 c2:Nat} {e:TypeId} {te ee:TE} (ht:Qh T t=some te) (htd:te.d=.slice e) (he:Qh T e=some ee) (hs:ee.size=r.size)
  (hz:Nat.beq (Qu ee.z).length ee.size=true) (hsz:Nat.ble 1 ee.size=true) (hby:Nat.ble 1 ee.bytes=true)
  (hO:O=O1++tl (.slice A m c) e ee.size::O2) (hs1:gv G s=some (.v (.slice A m c))) (hx1:gv G x=some (.v (.slice A2 m2 c2)))
  (hDx:D[kx]?=some (DF.v (rSl r) xs (.slice A m c))) (hDy:isV (rSl r) (Je X.ok X.w.heap.size β H O w) w ys (.slice A2 m2 c2)) (happ:app ee.bytes xs ys=some zs)
  (hk:∀A' c' a' w',isV (rSl r) (Je X.ok X.w.heap.size β H (O1++tl (.slice A' zs.length c') e ee.size::O2) w') w' zs (.slice A' zs.length c') →
   Sb β X (Tj G d (.v (.slice A' zs.length c'))) D H (O1++tl (.slice A' zs.length c') e ee.size::O2) a' w'→wpList P ops Q rest a' w') :
  wpList P ops Q (⟨some d,.call ⟨.builtin .append,⟨[s,x]⟩,⟨[t,t]⟩⟩,ty,ps,af,gd⟩::rest) a w:=by
 subst hO
 obtain⟨hbytes,rfl⟩:=Qju happ
 have hmem:(tl (.slice A m c) e ee.size:TL)∈O1++tl (.slice A m c) e ee.size::O2:=by simp
 obtain⟨xs0,hown⟩:=(h.own _ hmem).1
 have hmine:∀g,(Value.slice A m c).ownBlock=some g→X.mine g:=(h.own _ hmem).2
 have hvx:=Z3.1 (h.d kx hDx)
 obtain⟨csx,hcx1,hxl,hmc,hA,hcx2,hcx3,hcx4⟩:=N0 hvx
 obtain⟨csy,hcy1,hyl,hmc2,hA2,hcy2,hcy3,hcy4⟩:=N0 (Z3.1 hDy)
 have hzl:=QJ hz
 have hsz':0<ee.size:=QF hsz
 have hby':0<ee.bytes:=QF hby
 have hnews:∀ad,A2=some ad→∀j u,csy[j]?=some u→w.cell? (ad.add j)=some u:=by
  intro ad had j u hu
  have hj:=(QK.1 hu).1
  have hm2:0<m2:=by
   rcases XQ m2 with h0 | h0
   ·rw[h0,XB]at hcy1; omega
   ·exact h0
  obtain⟨b,o,hA',hc⟩:=hcy3 hm2
  rw[hA']at had
  injection had with had
  subst had
  rw[Hw]
  exact(hc j u hu).2
 simp only[Zt]at hown
 obtain⟨v',w1,hrun,hown',hgrow,hblk⟩:=Qgd (P:=P) (w:=w) (ty:=ty) hT ht htd he hzl hsz' hby' hown (JB _) (k:=m2) (c:=c2) (A:=A2) (news:=csy) (by rw[hs]; exact hcy1) hA2 hnews hcy2 (by rw[←hxl,←hyl]; exact hbytes)
 have hrun':(execOp a.eval ⟨some d,.call ⟨.builtin .append,⟨[s,x]⟩,⟨[t,t]⟩⟩,ty,ps,af,gd⟩).run P w=.ok (.value v') w1:=by
  unfold execOp
  have hm:(Array.mk [s,x]).map a.eval=⟨[.slice A m c,.slice A2 m2 c2]⟩:=by simp[h.ev hs1,h.ev hx1,Iq]
  simp[resolve,hm,invoke,builtin,hrun]
 have hxs0:xs0.length=m*ee.size:=hown.1
 have hform:∃A' c',v'=.slice A' (m+m2) c'∧m+m2≤c'∧(0<m+m2→∃g,A'=some ⟨g,0,none⟩):=by
  rcases hown'.2 with⟨rfl,h0⟩ | ⟨g,cap,cur,fz,rfl,_,_,_,hle,_⟩
  ·exact⟨none,0,by rw[h0],by omega,fun h=>by omega⟩
  ·exact⟨_,cap,rfl,hle,fun _=>⟨g,rfl⟩⟩
 obtain⟨A',c',rfl,hc',hA'⟩:=hform
 have hlen:(xs++ys).length=m+m2:=by rw[QC,hxl,hyl]
 have hrow:∀g,(Value.slice A' (m+m2) c').ownBlock=some g→∀(j:Nat) u,(xs0++csy)[j]?=some u→w1.cell? ⟨g,j,none⟩=some u:=by
  intro g hg j u hu
  have:=hown'.cells hg j u hu
  rwa[Hw,QE]at this
 have hrow0:∀g,(Value.slice A m c).ownBlock=some g→∀(j:Nat) u,xs0[j]?=some u→w.cell? ⟨g,j,none⟩=some u:=by
  intro g hg j u hu
  have:=hown.cells hg j u hu
  rwa[Hw,QE]at this
 have hlt1:=hown'.lt
 have hlt0:=hown.lt
 have hmine1:∀g,(Value.slice A' (m+m2) c').ownBlock=some g→X.mine g:=by
  intro g hg
  rcases hblk with he1 | ⟨he1,_⟩
  ·exact hmine g (by rw[←he1]; exact hg)
  ·rw[he1]at hg; injection hg with hg; subst hg; exact .inl h.bel.size
 have hevo:Evo (Je X.ok X.w.heap.size β H (O1++tl (.slice A m c) e ee.size::O2) w) w w1:=by
  refine⟨hgrow.size,fun b o hk=>?_,fun b es cl hk hmp=>?_⟩
  rotate_left
  ·have hbg:some b≠(Value.slice A m c).ownBlock:=by
    intro he
    rcases hown.2 with⟨hv0,_⟩ | ⟨g,cap,cur,fz,hv0,_,hh,_⟩
    ·rw[hv0]at he; simp[Value.ownBlock]at he
    ·rw[hv0]at he; simp only[Value.ownBlock,Option.some.injEq]at he; subst he; rw[hmp]at hh; cases hh
   rw[hgrow.block b hk.2.1 hbg]; exact hmp
  obtain⟨_,h2,_,h4⟩:=hk
  by_cases hbg:some b=(Value.slice A m c).ownBlock
  ·rcases hblk with he1 | ⟨he1,hbel⟩
   ·have hnc:=h4 _ hmem
    simp only[tl,Zt,not_and,Nat.not_le]at hnc
    have ho:o<m*ee.size:=hnc hbg.symm
    have hu:∃u,xs0[o]?=some u:=⟨xs0[o]'(by omega),QU (by omega)⟩
    obtain⟨u,hu⟩:=hu
    rw[hrow0 b hbg.symm o u hu,hrow b (by rw[he1,←hbg]) o u (by rw[JF (by omega)]; exact hu)]
   ·exact hbel.cell (p:=⟨b,o,none⟩) h2
  ·exact World.cell?_of_block (w:=w) (hgrow.block b h2 hbg)
 have hok:∀b o,Je X.ok X.w.heap.size β H (O1++tl (.slice A m c) e ee.size::O2) w b o→Je X.ok X.w.heap.size β H (O1++tl (.slice A' (xs++ys).length c') e ee.size::O2) w1 b o:=by
  rintro b o ⟨h1,h2,h3,h4⟩
  refine⟨h1,JG h2 hgrow.size,h3,fun t ht hcv=>?_⟩
  rcases QW.1 ht with ht | ht
  ·exact h4 t (by simp[ht]) hcv
  ·rcases QX.1 ht with rfl | ht
   ·obtain⟨c1,c2⟩:=hcv
    simp only[Zt,hlen]at c1 c2
    rcases hblk with he1 | ⟨he1,_⟩
    ·have hnc:=h4 _ hmem
     simp only[tl,Zt,not_and,Nat.not_le]at hnc
     have:=hnc (by rw[←he1]; exact c1)
     rw[QP]at c2
     omega
    ·have e1:(Value.slice A' (m+m2) c').ownBlock=some b:=c1
     rw[he1]at e1
     injection e1 with e1
     omega
   ·exact h4 t (by simp[ht]) hcv
 have hothers:∀t∈O1++O2,∀g,t.blks g→some g≠(Value.slice A m c).ownBlock∧g<w.heap.size:=by
  intro t ht g hg
  refine⟨fun e1=>?_,h.olt (by rcases QW.1 ht with ht | ht<;>simp[ht]) hg⟩
  have hp:=QM.1 h.dOO
  rcases QW.1 ht with ht | ht
  ·exact hp.2.2 t ht _ (.head _) g hg e1.symm
  ·have hp2:=QG.1 hp.2.1
   exact hp2.1 t ht g e1.symm hg
 have hSb:Sb β X G D H (O1++tl (.slice A' (xs++ys).length c') e ee.size::O2) a w1:=by
  refine { sz:=h.sz,df:=h.df,fr:=h.fr,pn:=h.pn,tm:=h.tm,bel:=?_,dat:=(h.dat.evo hevo).weak hok,obj:=?_,own:=?_,dHH:=h.dHH,dHO:=?_,dOO:=?_ }
  ·exact h.bel.trans ⟨hgrow.os,hgrow.tape,hgrow.output,hgrow.size,fun k hk hn=>hgrow.block k (JG hk h.bel.size) (fun e1=>by exact(hmine k e1.symm).elim (fun h=>by omega) hn)⟩
  ·intro p hp
   have hpb:=Yg (h.obj p hp).1
   refine⟨?_,(h.obj p hp).2⟩
   rw[hgrow.block _ hpb (fun e1=>h.dHO p hp _ hmem e1.symm)]
   exact(h.obj p hp).1
  ·intro t ht
   rcases QW.1 ht with ht' | ht'
   ·exact⟨t.weak (t.keep (h.own t (by simp[ht'])).1 (fun g hg=>hgrow.block g (hothers t (by simp[ht']) g hg).2 (hothers t (by simp[ht']) g hg).1) hevo) hok,(h.own t (by simp[ht'])).2⟩
   ·rcases QX.1 ht' with rfl | ht'
    ·refine⟨⟨xs0++csy,?_⟩,fun g hg=>hmine1 g ((Fr A' (m+m2) (xs++ys).length c' c').trans hg)⟩
     simp only[Zt,hlen]
     exact hown'
    ·exact⟨t.weak (t.keep (h.own t (by simp[ht'])).1 (fun g hg=>hgrow.block g (hothers t (by simp[ht']) g hg).2 (hothers t (by simp[ht']) g hg).1) hevo) hok,(h.own t (by simp[ht'])).2⟩
  ·intro p hp t ht
   have hpb:=Yg (h.obj p hp).1
   rcases QW.1 ht with ht' | ht'
   ·exact h.dHO p hp t (by simp[ht'])
   ·rcases QX.1 ht' with rfl | ht'
    ·intro e1
     have e2:(Value.slice A' (m+m2) c').ownBlock=some (β p.1):=(Fr A' (m+m2) (xs++ys).length c' c').trans e1
     rcases hblk with he1 | ⟨he1,_⟩
     ·rw[he1]at e2; exact h.dHO p hp _ hmem e2
     ·rw[he1]at e2; injection e2 with e2; omega
    ·exact h.dHO p hp t (by simp[ht'])
  ·have hp:=QM.1 h.dOO
   have hp2:=QG.1 hp.2.1
   have hnew:∀t∈O1++O2,∀g,t.blks g→(Value.slice A' (m+m2) c').ownBlock≠some g:=by
    intro t ht g hg e2
    have:=hothers t ht g hg
    rcases hblk with he1 | ⟨he1,_⟩
    ·exact this.1 (by rw[←he1]; exact e2.symm)
    ·rw[he1]at e2; injection e2 with e2; omega
   refine QM.2 ⟨hp.1,QG.2 ⟨fun t ht g hg hg2=>hnew t (by simp[ht]) g hg2 ((Fr A' (m+m2) (xs++ys).length c' c').trans hg),hp2.2⟩,?_⟩
   intro t ht u hu g hg
   rcases QX.1 hu with rfl | hu
   ·exact fun hg2=>hnew t (by simp[ht]) g hg ((Fr A' (m+m2) (xs++ys).length c' c').trans hg2)
   ·exact hp.2.2 t ht u (.tail _ hu) g hg
 have hfact:isV (rSl r) (Je X.ok X.w.heap.size β H (O1++tl (.slice A' (xs++ys).length c') e ee.size::O2) w1) w1 (xs++ys) (.slice A' (xs++ys).length c'):=by
  refine Z3.2 ⟨_,_,_,rfl,rfl,by omega,fun hpos=>?_⟩
  obtain⟨g,rfl⟩:=hA' (by omega)
  refine⟨g,0,rfl,fun i x hx=>?_⟩
  have hgb:(Value.slice (some ⟨g,0,none⟩) (m+m2) c').ownBlock=some g:=rfl
  have hbase:=hlt1 g hgb
  have hcells:∀(j:Nat) u,(xs0++csy)[j]?=some u→j<(m+m2)*ee.size→Je X.ok X.w.heap.size β H (O1++tl (.slice (some ⟨g,0,none⟩) (xs++ys).length c') e ee.size::O2) w1 g j∧w1.cell? ⟨g,j,none⟩=some u:=by
   intro j u hu hj
   refine⟨⟨X.mine_ok (hmine1 g hgb) j,hbase.2,fun p hp e1=>?_,fun t ht hcv=>?_⟩,hrow g hgb j u hu⟩
   ·have hpb:=Yg (h.obj p hp).1
    rcases hblk with he1 | ⟨he1,_⟩
    ·exact h.dHO p hp _ hmem (by show(Value.slice A m c).ownBlock=some (β p.1); rw[←he1,e1]; exact hgb)
    ·rw[hgb]at he1; injection he1 with he1; omega
   ·rcases QW.1 ht with ht' | ht'
    ·have:=hothers t (by simp[ht']) g (t.cb hcv)
     rcases hblk with he1 | ⟨he1,_⟩
     ·exact this.1 (by rw[←he1]; exact hgb.symm)
     ·rw[hgb]at he1; injection he1 with he1; omega
    ·rcases QX.1 ht' with rfl | ht'
     ·have c2:=hcv.2
      simp only[Zt,hlen]at c2
      omega
     ·have:=hothers t (by simp[ht']) g (t.cb hcv)
      rcases hblk with he1 | ⟨he1,_⟩
      ·exact this.1 (by rw[←he1]; exact hgb.symm)
      ·rw[hgb]at he1; injection he1 with he1; omega
  have hconv:∀{x:τ} {ds:List Value},r.rep (Je X.ok X.w.heap.size β H (O1++tl (.slice A m c) e ee.size::O2) w) w x ds →
    r.rep (Je X.ok X.w.heap.size β H (O1++tl (.slice (some ⟨g,0,none⟩) (xs++ys).length c') e ee.size::O2) w1) w1 x ds:=fun hr=>r.weak (r.evo hr hevo) hok
  by_cases hi:i<m
  ·rw[JF (by omega)]at hx
   obtain⟨ds,hr,hd⟩:=hcx4 i x hx
   refine⟨ds,hconv hr,fun j u hu=>?_⟩
   have hj:j<r.size:=by have:=(QK.1 hu).1; rw[r.len hr]at this; exact this
   have hcu:=hd j u hu
   have hidx:i*r.size+j<m*r.size:=by
    have:(i+1)*r.size≤m*r.size:=JH _ hi
    rw[QP]at this; omega
   obtain⟨b',o',hA0,hc0⟩:=hcx3 (by omega)
   have hown0:b'=g∨True:=.inr trivial
   have hxs:xs0[i*r.size+j]?=some u:=by
    rcases hown.2 with⟨hv0,h0⟩ | ⟨g0,cap,cur,fz0,hv0,_,_,_⟩
    ·omega
    ·injection hv0 with hv0
     rw[hA0]at hv0
     injection hv0 with hv0
     injection hv0 with hb0 ho0
     subst hb0; subst ho0
     have h1:=(hc0 _ u hcu).2
     have h2:=hrow0 b' (by rw[hA0]; rfl) (i*r.size+j) (xs0[i*r.size+j]'(by rw[hxs0,hs]; exact hidx)) (QU _)
     rw[QE]at h1
     rw[h1]at h2
     rw[QU (by rw[hxs0,hs]; exact hidx)]
     exact h2.symm
   have:=hcells (i*r.size+j) u (by rw[JF (by rw[hxs0,hs]; exact hidx)]; exact hxs) (by rw[hs,QP]; omega)
   rw[QE]
   exact this
  ·rw[JE (by omega),hxl]at hx
   obtain⟨ds,hr,hd⟩:=hcy4 (i - m) x hx
   refine⟨ds,hconv hr,fun j u hu=>?_⟩
   have hj:j<r.size:=by have:=(QK.1 hu).1; rw[r.len hr]at this; exact this
   have hcu:=hd j u hu
   have him:i - m<m2:=by
    have:=(QK.1 hx).1
    omega
   have hidx:(i - m)*r.size+j<m2*r.size:=by
    have:(i - m+1)*r.size≤m2*r.size:=JH _ him
    rw[QP]at this; omega
   have e1:i*r.size+j=m*r.size+((i - m)*r.size+j):=by
    rw[←ZG,←QP]; congr 2; omega
   have:=hcells (i*r.size+j) u (by
    rw[JE (by rw[hxs0,hs,e1]; omega),hxs0,hs,e1,ZE]
    exact hcu) (by rw[hs,QP,e1]; omega)
   rw[QE]
   exact this
 refine Jk (Kh h hg) (Yn hrun' ?_)
 have hput:=hSb.put hlt (.v (.slice A' (xs++ys).length c'))
 have:=hk A' c' _ w1 hfact hput
 simp only[Iq,hlen]at this
 exact this
end
end Gd

/- Parts of slices and strings; conversions; text put together. -/
namespace Gd
open Go Go.RowKit
set_option linter.unusedVariables false
set_option linter.unusedSimpArgs false
def slc{α:Type}(xs:List α)(lo hi:Int):Option (List α):=if 0≤lo∧lo≤hi∧hi≤(xs.length:Int)then some ((xs.drop lo.toNat).take (hi - lo).toNat)else none
theorem slc_ok{α:Type}{xs ys:List α}{lo hi:Int}(h:slc xs lo hi=some ys):0≤lo∧lo≤hi∧hi≤(xs.length:Int)∧ys=(xs.drop lo.toNat).take (hi - lo).toNat∧ys.length=(hi - lo).toNat:=by
 unfold slc at h
 split at h
 ·rename_i hc
  have:=(Option.some.inj h).symm
  refine⟨hc.1,hc.2.1,hc.2.2,this,?_⟩
  rw[this]; simp; omega
 ·cases h
def Jjy(a b:Str):Option Str:=if a.length+b.length≤9223372036854775807 then some (a++b)else none
def Qsv(xs:List Int):Str:=xs.map fun i=>UInt8.ofNat i.toNat
section
variable {P:Program} {T:Tab} {β:Nat→Nat} {X:Cx} {G:GL} {D:List DF} {H:HL} {O:List TL} {a:Act} {w w':World}
variable {ops:Array Oper} {Q:Exit→Act→World→Prop} {rest:List Oper}
theorem Qa9{k:IntKind}{i:Int}{y:Nat}{code:BoundsCode}(h0:0≤i)(h1:i≤y):(Instr.sliceBound (.int k i) y code).run P w=.ok i.toNat w:=by
 simp[Instr.sliceBound,asIntOf,h0,h1]
theorem Qpf(ns:List Int)(s:Str):ns.foldl (fun r n=>r.push (UInt8.ofNat n.toNat)) (ByteArray.mk s.toArray)=ByteArray.mk (s++Qsv ns).toArray:=by
 induction ns generalizing s with
 | nil=>simp[Qsv]
 | cons x ns ih =>
  simp only[List.foldl_cons]
  have:(ByteArray.mk s.toArray).push (UInt8.ofNat x.toNat)=ByteArray.mk (s++[UInt8.ofNat x.toNat]).toArray:=by
   apply ByteArray.ext; simp[ByteArray.push]
  rw[this,ih]
  simp[Qsv]
end
end Gd

/- A region whose order is drawn: what each operation gives, whatever the order. -/
namespace Gd
open Go Go.RowKit
set_option linter.unusedVariables false
set_option linter.unusedSimpArgs false
structure FV where
 p:Ok→World→Value→Prop
 evo:∀{ok w w' v},p ok w v→Evo ok w w'→p ok w' v
 weak:∀{ok ok' w v},p ok w v→(∀b o,ok b o→ok' b o)→p ok' w v
def Q7w(l:List Oper)(i j:Nat):Bool :=
 match l[i]? with
 | some o=>o.after.toList.any fun e=>Region.binds .any e&&Nat.beq e.on j
 | none=>false
def Fs(l:List Oper):Nat→Nat→Nat→Bool
 | 0,_,_=>false
 | f+1,i,j=>match l[i]? with
  | some o=>o.after.toList.any fun e=>Region.binds .any e&&(Nat.beq e.on j||Fs l f e.on j)
  | none=>false
def backB(l:List Oper):Bool:=l.zipIdx.all fun(o,i)=>o.after.toList.all fun e=>!Region.binds .any e||Nat.blt e.on i
def Qwm:List Nat→Bool
 | []=>true
 | d::ds=>Qlw ds d&&Qwm ds
section
variable {P:Program} {T:Tab} {β:Nat→Nat} {X:Cx} {G:GL} {D:List DF} {H:HL} {O:List TL} {a:Act} {w w':World}
theorem Y0{α β:Type}{f f':α→Option β}:∀{l:List α},(∀j∈l,f' j=f j)→l.filterMap f'=l.filterMap f
 | [],_=>rfl
 | y::ys,h=>by
  simp only[XE,h y (.head _),Y0 fun j hj=>h j (.tail _ hj)]
theorem Qtr:∀{ds:List Nat},Qwm ds=true→ds.Nodup
 | [],_=>List.Pairwise.nil
 | d::ds,h=>by
  simp only[Qwm,QQ]at h
  exact List.Pairwise.cons (fun e he hd=>Qzn h.1 (hd▸he)) (Qtr h.2)
theorem Qjw{l:List Oper}{listed:Array Bool}{i:Nat}:i∈Region.ready .any ⟨l⟩ listed ↔
  i<l.length∧listed.getD i true=false∧∃o,l[i]?=some o∧∀e∈o.after.toList,Region.binds .any e=true→listed.getD e.on false=true:=by
 simp only[Region.ready,JU,JT,XK]
 constructor
 ·rintro⟨h1,h2⟩
  simp only[QQ,XA]at h2
  refine⟨h1,h2.1,?_⟩
  have ho:(⟨l⟩:Array Oper)[i]?=some l[i]:=by simp[h1]
  rw[ho]at h2
  simp only[XU,ZF,KV]at h2
  refine⟨l[i],by simp[h1],fun e he hb=>?_⟩
  have:=h2.2 e (VR.1 he)
  simpa[hb]using this
 ·rintro⟨h1,h2,o,ho,h3⟩
  refine⟨h1,?_⟩
  have ho':(⟨l⟩:Array Oper)[i]?=some o:=by simpa using ho
  simp only[QQ,XA,h2,ho',XU,ZF,KV,true_and]
  intro e he
  cases hb:Region.binds .any e with
  | false=>rfl
  | true=>simpa using h3 e (VR.2 he) hb
def Qpg(l:List Oper)(E:Nat→Prop):Prop:=∀i o,E i→l[i]?=some o→∀e∈o.after.toList,Region.binds .any e=true→E e.on
theorem Rj{l:List Oper}{E:Nat→Prop}(hc:Qpg l E):∀(f i j:Nat),Fs l f i j=true→(∀o,l[i]?=some o→∀e∈o.after.toList,Region.binds .any e=true→E e.on)→E j
 | 0,_,_,h,_=>by simp[Fs]at h
 | f+1,i,j,h,hi=>by
  simp only[Fs]at h
  split at h
  ·rename_i o ho
   obtain⟨e,he,hb⟩:=List.any_eq_true.1 h
   simp only[QQ,JS]at hb
   have hE:=hi o ho e he hb.1
   rcases hb.2 with h1 | h1
   ·rw[←QJ h1]; exact hE
   ·exact Rj hc f e.on j h1 fun o' ho'=>hc _ o' hE ho'
  ·cases h
theorem Jjz{l:List Oper}{i:Nat}{o:Oper}(h:backB l=true)(ho:l[i]?=some o){e:Edge}(he:e∈o.after.toList)(hb:Region.binds .any e=true):e.on<i:=by
 have hm:(o,i)∈l.zipIdx:=by
  rw[List.mem_zipIdx_iff_getElem?]; simpa using ho
 have:=JN.1 h _ hm
 have:=JN.1 this e he
 simp only[hb,WW,KI]at this
 exact Nat.lt_of_succ_le (QF this)
theorem Q5f{l:List Oper}{listed:Array Bool}(hs:listed.size=l.length)(hb:backB l=true)(hr:Region.ready .any ⟨l⟩ listed=[]):∀i,i<l.length→listed.getD i false=true:=by
 intro i
 induction i using Nat.strongRecOn with
 | _ i ih =>
  intro hi
  cases hl:listed.getD i false with
  | true=>rfl
  | false =>
   exfalso
   have:i∈Region.ready .any ⟨l⟩ listed:=by
    rw[Qjw]
    refine⟨hi,?_,l[i],by simp[hi],fun e he hbe=>?_⟩
    ·have h1:listed.getD i true=listed.getD i false:=by simp[Array.getD,hs,hi]
     rw[h1,hl]
    ·have hlt:=Jjz (o:=l[i]) hb (QU hi) he hbe
     exact ih e.on hlt (by omega)
   rw[hr]at this
   simp at this
theorem Qwn{l:List Oper}{Q:Exit→Act→World→Prop}{i:Nat}{o:Oper}{K:Act→World→Prop}(ho:l[i]?=some o)(h:wpList P ⟨l⟩ (Exit.then K Q) [o] a w):wpOp P ⟨l⟩ Q i K a w:=by
 have ho':(⟨l⟩:Array Oper)[i]?=some o:=by simpa using ho
 unfold wpOp
 rw[ho']
 unfold wpList at h
 simp only
 split
 ·rename_i hw
  rw[if_pos hw]at h
  rcases h with h | ⟨h1,h2⟩
  ·left
   unfold Oper.wp at *
   generalize (execOp a.eval o).run P w=res at *
   cases res with
   | ok nx w1 =>
    cases nx<;>first
     | exact h
     | exact Calls.mono h (fun e w'' he=>by cases e<;>exact he)
     | exact Rows.mono h (fun _ _ he=>he)
   | halt x w1=>cases x<;>exact h
  ·exact .inr ⟨h1,h2⟩
 ·rename_i hw
  rw[if_neg hw]at h
  exact h
theorem Qhx{l:List Oper}{Q:Exit→Act→World→Prop}{i:Nat}{o:Oper}(ho:l[i]?=some o)(h:wpList P ⟨l⟩ Q (l.drop i) a w):wpOp P ⟨l⟩ Q i (wpList P ⟨l⟩ Q (l.drop (i+1))) a w:=by
 have ho':(⟨l⟩:Array Oper)[i]?=some o:=by simpa using ho
 have hi:=(QK.1 ho).1
 rw[XH hi,(QK.1 ho).2]at h
 unfold wpOp
 rw[ho']
 exact h
theorem Sb.perm{O':List TL}(h:Sb β X G D H O a w)(hp:O.Perm O'):Sb β X G D H O' a w:=by
 have hok:∀b o,Je X.ok X.w.heap.size β H O w b o→Je X.ok X.w.heap.size β H O' w b o:=fun b o ⟨h1,h2,h3,h4⟩=>⟨h1,h2,h3,fun u hu=>h4 u (hp.mem_iff.2 hu)⟩
 refine { sz:=h.sz,df:=h.df,fr:=h.fr,pn:=h.pn,tm:=h.tm,bel:=h.bel,dat:=h.dat.weak hok,obj:=h.obj,own:=fun u hu=>⟨u.weak (h.own u (hp.mem_iff.2 hu)).1 hok,(h.own u (hp.mem_iff.2 hu)).2⟩,dHH:=h.dHH,dHO:=fun p hp' u hu=>h.dHO p hp' u (hp.mem_iff.2 hu),dOO:=?_ }
 exact(hp.pairwise_iff (fun {x y} hxy g hg hg2=>hxy g hg2 hg)).1 h.dOO
end
end Gd

/- Struct equality, literals of the call's own, results in cells, local arrays, function values. -/
namespace Gd
open Go Go.RowKit
set_option linter.unusedVariables false
set_option linter.unusedSimpArgs false
def Qph(T:Tab):List Field→List Value→List Value→Option Bool
 | [],_,_=>some true
 | f::fs,xs,ys=>match Qh T f.type,xs[f.offset]?,ys[f.offset]?,Qph T fs xs ys with
  | some ⟨_,.int _,_,_,_⟩,some (.int k a),some (.int k' b),some r=>bif Rh k k' then some ((a==b)&&r)else none
  | some ⟨_,.bool,_,_,_⟩,some (.bool a),some (.bool b),some r=>some ((a==b)&&r)
  | some ⟨_,.string,_,_,_⟩,some (.string ⟨⟨a⟩⟩),some (.string ⟨⟨b⟩⟩),some r=>some ((a==b)&&r)
  | _,_,_,_=>none
def O4(fs:List Field):Bool:=fs.all fun f=>f.name != "_"
section
variable {P:Program} {T:Tab} {β:Nat→Nat} {X:Cx} {G:GL} {D:List DF} {H:HL} {O:List TL} {a:Act} {w w':World}
variable {ops:Array Oper} {Q:Exit→Act→World→Prop} {rest:List Oper}
theorem Qge(hT:Q4 P T){t:TypeId}{e:TE}(he:Qh T t=some e)(ha:X6 e.d=false){xs:List Value}{off:Nat}{v:Value}(hv:xs[off]?=some v) :
  (part t xs.toArray off).run P w=.ok v w:=Qpb hT w he xs off (by rw[ha]; simpa using hv)
theorem Qwo(hT:Q4 P T)(d:Nat):∀{fs:List Field} {xs ys:List Value} {r:Bool},O4 fs=true→Qph T fs xs ys=some r→(Op.eqFields (d+1) xs.toArray ys.toArray fs).run P w=.ok r w
 | [],xs,ys,r,_,h=>by simp[Qph]at h; subst h; rfl
 | f::fs,xs,ys,r,hb,h=>by
  simp only[O4,ZS,QQ]at hb
  have hn:f.name ≠ "_" := by simpa using hb.1
  simp only[Qph]at h
  have key:∀{e:TE} {u v:Value} {p q:Bool},Qh T f.type=some e→X6 e.d=false→xs[f.offset]?=some u→ys[f.offset]?=some v →
    (Op.equalIn (d+1) f.type u v).run P w=.ok p w→Qph T fs xs ys=some q→(Op.eqFields (d+1) xs.toArray ys.toArray (f::fs)).run P w=.ok (p&&q) w:=by
   intro e u v p q he ha hu hv hp hq
   have ih:=Qwo hT d (by simpa[O4]using hb.2) hq
   simp only[Op.eqFields,ne_eq,hn,not_false_eq_true,if_true,Sem.run_bind,Qge hT he ha hu,Qge hT he ha hv,Result.andThen_ok,hp]
   cases p with
   | true=>simpa using ih
   | false=>simp
  split at h
  ·rename_i t1 k z1 s1 b1 k1 a1 k2 a2 q he hu hv hq
   cases hk:Rh k1 k2 with
   | false=>rw[hk]at h; cases h
   | true =>
    rw[hk]at h
    simp only[cond_true,Option.some.injEq]at h
    subst h
    have:=C3 hk
    subst this
    exact key he rfl hu hv (run_equalIn_int w d f.type k1 k a1 a2 (Jl hT he).2) hq
  ·rename_i he hu hv hq
   simp at h; subst h
   exact key he rfl hu hv (run_equalIn_bool' w d f.type _ _ (Jl hT he).2) hq
  ·rename_i t1 z1 s1 b1 a1 a2 q he hu hv hq
   simp at h; subst h
   refine key he rfl hu hv ?_ hq
   rw[run_equalIn_string w d f.type ⟨⟨a1⟩⟩ ⟨⟨a2⟩⟩ (Jl hT he).2]
   rw[show(ByteArray.mk ⟨a1⟩).toList=a1 from ByteArray.toList_mk a1,show(ByteArray.mk ⟨a2⟩).toList=a2 from ByteArray.toList_mk a2]
  ·cases h
theorem Sb.allocTL(h:Sb β X G D H O a w)(hb:Below w.heap.size w w'){t:TL}(ht:∀g,t.blks g→w.heap.size≤g)(hq:t.p (Je X.ok X.w.heap.size β H (t::O) w') w'):Sb β X G D H (t::O) a w':=by
 have h':=h.below hb
 have hevo:Evo (Je X.ok X.w.heap.size β H O w) w w':=(Evo.of_below hb).mono fun b o hk=>hk.2.1
 have hok:∀b o,Je X.ok X.w.heap.size β H O w b o→Je X.ok X.w.heap.size β H (t::O) w' b o:=by
  rintro b o ⟨h1,h2,h3,h4⟩
  refine⟨h1,JG h2 hb.size,h3,fun u hu hc=>?_⟩
  rcases QX.1 hu with rfl | hu
  ·have:=ht b (u.cb hc); omega
  ·exact h4 u hu hc
 refine { h' with dat:=(h.dat.evo hevo).weak hok,own:=fun u hu=>?_,dHO:=fun p hp u hu=>?_,dOO:=List.Pairwise.cons (fun u hu g hg hg2=>?_) h'.dOO }
 ·rcases QX.1 hu with rfl | hu
  ·exact⟨hq,fun g hg=>.inl (QN h.bel.size (ht g hg))⟩
  ·exact⟨u.weak (u.keep (h.own u hu).1 (fun g hg=>hb.block g (h.olt hu hg)) hevo) hok,(h.own u hu).2⟩
 ·rcases QX.1 hu with rfl | hu
  ·intro hg
   have:=ht _ hg
   have:=h.hlt hp
   omega
  ·exact h'.dHO p hp u hu
 ·have:=ht g hg
  have:=h.olt hu hg2
  omega
theorem Sb.allocOwn(h:Sb β X G D H O a w)(hb:Below w.heap.size w w'){v:Value}{e sz m:Nat}{xs:List Value}(hv:v.ownBlock=some w.heap.size∨v.ownBlock=none)(hm:Zt v=m)(hown:w'.ownsRowS 0 e sz v m xs) :
  Sb β X G D H (tl v e sz::O) a w':=by
 subst hm
 refine h.allocTL hb (t:=tl v e sz) (fun g hg=>?_) ⟨xs,hown⟩
 rcases hv with hv | hv
 ·have hg:v.ownBlock=some g:=hg
  rw[hv]at hg; injection hg with hg; omega
 ·have hg:v.ownBlock=some g:=hg
  rw[hv]at hg; cases hg
theorem Jj0(w:World)(B:Nat)(hB:B≤w.heap.size)(e sz m:Nat)(cs:List Value)(hl:cs.length=m*sz)(hm:m≤maxLen) :
  (w.alloc (.cells cs.toArray e)).ownsRowS B e sz (.slice (some ⟨w.heap.size,0,none⟩) m m) m cs :=
 ⟨hl,.inr ⟨w.heap.size,m,cs.toArray,(0,0),rfl,hB,heap_alloc_new w _,.inl rfl,QB _,hm,by simp[hl],by rw[←hl]; simp⟩⟩
theorem Qpi(hT:Q4 P T)(h:Sb β X G D H O a w){t:TypeId}{d:Nat}{ps:String}{af:Array Edge}{ty:TypeId}{gd:Option (Nat×Bool)}
  (hg:B3 ops G ⟨some d,.buildSlice t 0 ⟨[]⟩,ty,ps,af,gd⟩=some true) (hlt:okD X d=true)
  {τ:Type} {r:RT τ} {e:TypeId} {te ee:TE} (ht:Qh T t=some te) (htd:te.d=.slice e) (he:Qh T e=some ee)
  (hk:∀b a' w',isV (rSl r) (Je X.ok X.w.heap.size β H (tl (.slice (some ⟨b,0,none⟩) (List.length ([]:List τ)) 0) e ee.size::O) w') w' [] (.slice (some ⟨b,0,none⟩) (List.length ([]:List τ)) 0) →
   Sb β X (Tj G d (.v (.slice (some ⟨b,0,none⟩) (List.length ([]:List τ)) 0))) D H (tl (.slice (some ⟨b,0,none⟩) (List.length ([]:List τ)) 0) e ee.size::O) a' w'→wpList P ops Q rest a' w') :
  wpList P ops Q (⟨some d,.buildSlice t 0 ⟨[]⟩,ty,ps,af,gd⟩::rest) a w:=by
 have hrun:(execOp a.eval ⟨some d,.buildSlice t 0 ⟨[]⟩,ty,ps,af,gd⟩).run P w=.ok (.value (.slice (some ⟨w.heap.size,0,none⟩) 0 0)) (w.alloc (.cells #[] e)):=by
  have hun:(underlying t).run P w=.ok (.slice e) w:=by rw[Jw hT w ht,htd]
  unfold execOp
  simp[Instr.buildSlice,hun,J5 hT w he,Instr.fill,newRow]
  rw[show Array.range 0=#[]from by simp[Array.range]]
  simp
 refine Jk (Kh h hg) (Yn hrun ?_)
 have hb:Below w.heap.size w (w.alloc (.cells #[] e)):=(Below.refl _ _).alloc (QB _) _
 exact hk _ _ _ (Z3.2 ⟨_,0,0,rfl,rfl,QB _,fun h=>absurd h (by omega)⟩)
  ((h.allocOwn hb (.inl rfl) rfl (Jj0 w 0 (JB _) e ee.size 0 [] (by simp) (by simp[maxLen]))).put hlt (.v _))
end
end Gd

/- Results that are rows of the caller's own; local arrays; objects that are no longer written; function values. -/
namespace Gd
open Go Go.RowKit
set_option linter.unusedVariables false
set_option linter.unusedSimpArgs false
section
variable {P:Program} {T:Tab} {β:Nat→Nat} {X:Cx} {G:GL} {D:List DF} {H:HL} {O:List TL} {a:Act} {w w':World}
variable {ops:Array Oper} {Q:Exit→Act→World→Prop} {rest:List Oper}
end
end Gd

/- Local arrays of integers. -/
namespace Gd
open Go Go.RowKit
set_option linter.unusedVariables false
set_option linter.unusedSimpArgs false
section
variable {P:Program} {T:Tab} {β:Nat→Nat} {X:Cx} {G:GL} {D:List DF} {H:HL} {O:List TL} {a:Act} {w w':World}
variable {ops:Array Oper} {Q:Exit→Act→World→Prop} {rest:List Oper}
end
end Gd

/- Division and shifts by what is not a constant. -/
namespace Gd
open Go Go.RowKit
set_option linter.unusedVariables false
set_option linter.unusedSimpArgs false
def Qjx(k:IntKind)(x y:Int):Option Int:=if y=0 then none else some (k.wrap (x.tdiv y))
def Qwp(x y:Int):Option Int:=if y=0 then none else some (x.tmod y)
def Jaq(k:IntKind)(x y:Int):Option Int:=if y<0 then none else some (x.fdiv (2 ^ (min y.toNat k.bits)))
def Jar(k:IntKind)(x y:Int):Option Int:=if y<0 then none else some (k.wrap (x*2 ^ (min y.toNat k.bits)))
section
variable {P:Program} {T:Tab} {β:Nat→Nat} {X:Cx} {G:GL} {D:List DF} {H:HL} {O:List TL} {a:Act} {w w':World}
variable {ops:Array Oper} {Q:Exit→Act→World→Prop} {rest:List Oper}
theorem Jj1{t:TypeId}{k:IntKind}{u v z:Int}(h:Qjx k u v=some z)(w:World):(binOp .quo t (.int k u) (.int k v)).run P w=.ok (.int k z) w:=by
 unfold Qjx at h
 split at h
 ·cases h
 ·rename_i hv
  have:=Option.some.inj h; subst this
  rw[binOp_quo]; unfold Op.intDiv; rw[if_neg hv]; rfl
theorem Jj2{t:TypeId}{k:IntKind}{u v z:Int}(h:Qwp u v=some z)(w:World):(binOp .rem t (.int k u) (.int k v)).run P w=.ok (.int k z) w:=by
 unfold Qwp at h
 split at h
 ·cases h
 ·rename_i hv
  have:=Option.some.inj h; subst this
  rw[binOp_rem]; unfold Op.intDiv; rw[if_neg hv]; rfl
theorem Jj3{t:TypeId}{k k2:IntKind}{u v z:Int}(h:Jaq k u v=some z)(w:World):(binOp .shr t (.int k u) (.int k2 v)).run P w=.ok (.int k z) w:=by
 unfold Jaq at h
 split at h
 ·cases h
 ·rename_i hv
  have:=Option.some.inj h; subst this
  rw[binOp_shr]; unfold Op.shift; rw[if_neg hv]; rfl
theorem Jj4{t:TypeId}{k k2:IntKind}{u v z:Int}(h:Jar k u v=some z)(w:World):(binOp .shl t (.int k u) (.int k2 v)).run P w=.ok (.int k z) w:=by
 unfold Jar at h
 split at h
 ·cases h
 ·rename_i hv
  have:=Option.some.inj h; subst this
  show(Op.shift .shl k u k2 v).run P w=_
  unfold Op.shift; rw[if_neg hv]; rfl
end
end Gd
