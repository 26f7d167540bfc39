/- Decompilation core: typed readings of values, the state of a walk, and its frame. -/
import Derived.WalkKit
import Derived.KernelRfl
import Derived.Lib.AppendStr
import Derived.Lib.ConvBytes
namespace Go
set_option linter.defProp false
def QQ := @Option.bind_some
def QJ := @Bool.and_eq_true
def QX := @List.mem_cons
def QZ := @List.mem_append
def QK := @List.mem_map
def QV := @List.nil_append
def QW := @Nat.le_of_ble_eq_true
def QY := @Nat.zero_add
def QU := @List.mem_filter
def QG := @Nat.le_refl
def QH := @List.length_nil
def QE := @List.pairwise_append
def QF := @Int.tdiv_eq_ediv_of_nonneg
def QA := @List.filter_cons_of_pos
def QB := @List.filter_cons_of_neg
def QC := @List.append_nil
def QD := @List.eq_nil_of_length_eq_zero
def QI := @List.takeWhile_append_dropWhile
def QM := @List.cons_append
def QN := @List.map_append
def QO := @List.not_mem_nil
def QP := @Nat.lt_of_lt_of_le
def QR := @List.filter_append
def QT := @Nat.mul_le_mul_right
def JQ := @Nat.zero_le
def JJ := @Array.getD_eq_getD_getElem?
def JX := @List.all_eq_true
def JZ := @Bool.false_eq_true
def JK := @List.mem_singleton
def JV := @List.map_cons
def JW := @List.nodup_cons
def JY := @Int.lt_trichotomy
def JU := @Bool.or_eq_true
def JG := @Option.map_eq_some_iff
def JH := @List.filterMap_append
def JE := @List.drop_length
def JF := @List.filter_sublist
def JA := @List.flatMap_cons
def JB := @List.pairwise_map
def JC := @List.getElem?_take
def JD := @List.getElem?_drop
def JI := @List.perm_append_comm
def JL := @List.mem_range
def JM := @List.getElem?_append_right
def JN := @Bool.not_eq_true'
def JO := @List.getD_eq_getElem?_getD
def JP := @Int.tmod_eq_emod_of_nonneg
def JR := @List.filterMap_cons
def JS := @List.getElem?_append_left
def JT := @List.pairwise_iff_getElem
def XQ := @Option.getD_some
def XJ := @List.size_toArray
def XX := @List.find?_cons_of_pos
def XZ := @List.find?_cons_of_neg
def XK := @List.takeWhile_cons_of_pos
def XV := @List.takeWhile_cons_of_neg
def XW := @List.filter_filter
def XY := @Array.getElem?_eq_getElem
def XU := @Nat.add_zero
def XG := @List.mem_iff_getElem
def XH := @Nat.add_sub_cancel_left
def XE := @List.getElem_map
def XF := @Nat.succ_le_succ
def XA := @List.pairwise_singleton
def XB := @List.getElem_mem
def XC := @List.drop_zero
def XD := @List.take_append_of_le_length
def XI := @List.drop_of_length_le
def XL := @List.filter_eq_nil_iff
def XM := @List.foldl_cons
def XN := @Option.map_some
def XO := @Int.toNat_natCast
def XP := @Bool.eq_false_iff
def XR := @Bool.or_eq_false_iff
def XT := @Array.getElem?_append_left
def ZQ := @Nat.le_succ
def ZJ := @List.dropWhile_cons_of_pos
def ZX := @List.dropWhile_cons_of_neg
def ZZ := @Int.lt_asymm
def ZK := @Array.mapM_eq_mapM_toList
def ZV := @List.getElem_of_mem
def ZW := @List.filter_eq_self
def ZY := @List.takeWhile_cons
def ZU := @List.dropWhile_cons
def ZG := @List.all_cons
def ZH := @Array.getElem?_replicate
def ZE := @List.find?_eq_none
def ZF := @Nat.le_mul_of_pos_right
def ZA := @List.take_take
def ZB := @List.takeWhile_sublist
def ZC := @List.dropWhile_sublist
def ZD := @List.length_replicate
def ZI := @List.any_eq_true
def ZL := @List.take_append
def ZM := @List.ext_getElem
def ZN := @Int.mul_le_mul_of_nonneg_right
def ZO := @List.filter_cons
def ZP := @Int.le_refl
def ZR := @Nat.add_comm
def ZS := @Nat.zero_mul
def ZT := @Int.lt_trans
def KQ := @Option.isSome_none
def KJ := @List.take_zero
def KX := @Nat.max_le
def KZ := @List.mem_of_find?_eq_some
def KK := @List.filterMap_eq_nil_iff
def KV := @List.mem_or_eq_of_mem_set
def KW := @Nat.mul_one
def KY := @Array.size_append
def KU := @List.ext_getElem?
def KG := @List.filter_congr
def KH := @Nat.lt_trichotomy
def KE := @List.find?_append
def KF := @List.cons_merge_cons_pos
def KA := @List.cons_merge_cons_neg
def KB := @List.mem_flatMap
def KC := @Nat.le_add_right
def KD := @List.map_nil
def KI := @List.drop_eq_nil_of_le
def KL := @List.length_eq_one_iff
def KM := @Nat.max_zero
def KN := @List.merge_perm_append
def KP := @List.any_append
def KR := @List.set_append_right
def KS := @List.eraseIdx_sublist
def KT := @Array.getElem?_modify
def VQ := @List.mem_iff_getElem?
def VJ := @List.mapM_cons
def VX := @List.mem_of_mem_take
def VZ := @List.toList_toArray
def VK := @List.flatten_append
def VV := @List.filterMap_some
def VW := @List.pairwise_merge
def VY := @Bool.false_or
def VU := @List.map_map
def VG := @Nat.zero_max
def VH := @Nat.one_mul
def Qyd(fz:Nat×Nat)(n:Nat):Prop:=fz=(0,0)∨fz=(n,n+1)
def World.ownsRowS(w:World)(base:Nat)(e:TypeId)(size:Nat)(v:Value)(n:Nat)(xs:List Value):Prop :=
  xs.length=n*size ∧
  ((v=.slice none 0 0∧n=0) ∨
   ∃g cap cur fz,v=.slice (some ⟨g,0,none⟩) n cap∧base≤g∧w.heap[g]?=some (.cells cur e fz)∧Qyd fz cur.size∧n≤cap∧cap≤maxLen∧cap*size≤cur.size∧cur.toList.take (n*size)=xs)
section
variable {w:World} {base:Nat} {e:TypeId} {size:Nat} {v:Value} {n:Nat} {xs:List Value}
theorem World.ownsRowS_nil(w:World)(base:Nat)(e:TypeId)(size:Nat):w.ownsRowS base e size (.slice none 0 0) 0 []:=⟨by simp,.inl ⟨rfl,rfl⟩⟩
theorem World.ownsRowS.lt(h:w.ownsRowS base e size v n xs):∀k,v.ownBlock=some k→base≤k∧k<w.heap.size:=by
 intro k hk
 rcases h.2 with⟨rfl,_⟩ | ⟨g,cap,cur,fz,rfl,hb,hg,_⟩
 ·simp[Value.ownBlock]at hk
 grind [Value.ownBlock,Array.getElem?_eq_some_iff]
theorem World.ownsRowS.cells(h:w.ownsRowS base e size v n xs){g:Nat}(hg:v.ownBlock=some g):∀j u,xs[j]?=some u→w.cell? ((⟨g,0,none⟩:Addr).add j)=some u:=by
 intro j u hu
 rcases h.2 with⟨rfl,_⟩ | ⟨g',cap,cur,fz,rfl,_,hgg,_,_,_,_,htake⟩
 ·simp[Value.ownBlock]at hg
 grind [Value.ownBlock,Addr,Addr.add,cell_of_row]
end
theorem Zx(P:Program)(g o:Nat)(t:TypeId)(fz:Nat×Nat):∀(vs:List Value) (i:Nat) (cur:Array Value) (w:World),w.heap[g]?=some (.cells cur t fz)→Qyd fz cur.size→o+i+vs.length≤cur.size→(∀v∈vs,v.oneCell'=true) →
  (storeCells ⟨g,o,none⟩ vs i).run P w=.ok () (w.setRow g (cur.toList.take (o+i)++vs++cur.toList.drop (o+i+vs.length)).toArray)
 | [],i,cur,w,hg,_,_,_=>by
  simp only[storeCells,QC,QH,XU,List.take_append_drop,Array.toArray_toList]
  rw[setRow_self w g cur t fz hg]
  rfl
 | v::rest,i,cur,w,hg,hfz,hl,h1=>by
  have hi:o+i<cur.size:=by grind
  have hadd:(⟨g,o,none⟩:Addr).add i=⟨g,o+i,none⟩:=by grind [Addr.add]
  have hcell:w.cell? ⟨g,o+i,none⟩=some cur[o+i]:=by grind [World.cell?]
  have hfro:w.frozen? ⟨g,o+i,none⟩=false:=by
   rcases hfz with rfl | rfl
   ·simp[World.frozen?,hg]
   grind [World.frozen?,Bool.and_eq_false_iff,decide_eq_false_iff_not]
  have hst:(store ((⟨g,o,none⟩:Addr).add i) v).run P w=.ok () (w.setRow g (cur.setIfInBounds (o+i) v)):=by
   rw[hadd,run_store P w _ v _ (h1 v (by simp)),hcell]
   grind [setCell_eq_setRow]
  have ih:=Zx P g o t fz rest (i+1) (cur.setIfInBounds (o+i) v) (w.setRow g (cur.setIfInBounds (o+i) v)) (setRow_heap w g cur _ t _ hg) (by simpa using hfz) (by grind) (fun x hx=>h1 x (by simp[hx]))
  simp only[storeCells,Sem.run_bind,hst,Result.andThen_ok,ih,setRow_setRow]
  grind [list_seg_step,Array.toList_setIfInBounds,Nat.add_assoc]
end Go
namespace Gd
open Go Go.RowKit
set_option linter.unusedVariables false
set_option linter.unusedSimpArgs false
abbrev Ok:=Nat→Nat→Prop
structure Evo(ok:Ok)(w w':World):Prop where
 size:w.heap.size≤w'.heap.size
 cell:∀b o,ok b o→w'.cell? ⟨b,o,none⟩=w.cell? ⟨b,o,none⟩
 map:∀b es c,ok b 0→w.heap[b]?=some (.map es c)→w'.heap[b]?=some (.map es c)
theorem Evo.refl(ok:Ok)(w:World):Evo ok w w:=⟨QG _,fun _ _ _=>rfl,fun _ _ _ _ h=>h⟩
def lt(w:World):Ok:=fun b _=>b<w.heap.size
theorem Evo.of_below{w w':World}(h:Below w.heap.size w w'):Evo (lt w) w w' :=
 ⟨h.size,fun b o hb=>h.cell (p:=⟨b,o,none⟩) hb,fun b es c hb hm=>by rw[h.block b hb]; exact hm⟩
theorem Evo.mono{ok ok':Ok}{w w':World}(h:Evo ok' w w')(hk:∀b o,ok b o→ok' b o):Evo ok w w' :=
 ⟨h.size,fun b o hb=>h.cell b o (hk b o hb),fun b es c hb hm=>h.map b es c (hk b 0 hb) hm⟩
theorem Evo.trans{ok:Ok}{w w1 w2:World}(h:Evo ok w w1)(k:Evo ok w1 w2):Evo ok w w2 :=
 ⟨Nat.le_trans h.size k.size,fun b o hb=>(k.cell b o hb).trans (h.cell b o hb),fun b es c hb hm=>k.map b es c hb (h.map b es c hb hm)⟩
theorem Evo.of_blocks{ok:Ok}{w w':World}(hs:w.heap.size≤w'.heap.size)(h:∀b o,ok b o→w'.heap[b]?=w.heap[b]?):Evo ok w w' :=
 ⟨hs,fun b o hb=>World.cell?_of_block (w:=w) (h b o hb),fun b es c hb hm=>by rw[h b 0 hb]; exact hm⟩
structure Vi(L:List Nat)(B:Nat)(w w':World):Prop where
 os:w'.os=w.os
 tape:w'.tape=w.tape
 output:w'.output=w.output
 size:w.heap.size≤w'.heap.size
 block:∀k,k<B→k∉L→w'.heap[k]?=w.heap[k]?
theorem Vi.refl(L:List Nat)(B:Nat)(w:World):Vi L B w w:=⟨rfl,rfl,rfl,QG _,fun _ _ _=>rfl⟩
theorem Vi.of(L:List Nat){B:Nat}{w w':World}(h:Below B w w'):Vi L B w w':=⟨h.os,h.tape,h.output,h.size,fun k hk _=>h.block k hk⟩
theorem Vi.nil{B:Nat}{w w':World}(h:Vi [] B w w'):Below B w w':=⟨h.os,h.tape,h.output,h.size,fun k hk=>h.block k hk (by simp)⟩
theorem Vi.trans{L:List Nat}{B:Nat}{a b c:World}(h:Vi L B a b)(k:Vi L B b c):Vi L B a c :=
 ⟨k.os.trans h.os,k.tape.trans h.tape,k.output.trans h.output,Nat.le_trans h.size k.size,fun i hi hn=>(k.block i hi hn).trans (h.block i hi hn)⟩
theorem Vi.mono{L:List Nat}{B B':Nat}{w w':World}(h:Vi L B w w')(hB:B'≤B):Vi L B' w w':=⟨h.os,h.tape,h.output,h.size,fun k hk hn=>h.block k (QP hk hB) hn⟩
theorem Vi.drew{L:List Nat}{B:Nat}{a w:World}(h:Vi L B a w):Vi L B a w.drew:=⟨h.os,h.tape,h.output,h.size,h.block⟩
structure RT(τ:Type) where
 size:Nat
 agg:Bool
 rep:Ok→World→τ→List Value→Prop
 len:∀{ok w x cs},rep ok w x cs→cs.length=size
 one:agg=false→size=1
 flat:∀{ok w x cs},rep ok w x cs→∀c∈cs,c.oneCell'=true
 evo:∀{ok w w' x cs},rep ok w x cs→Evo ok w w'→rep ok w' x cs
 weak:∀{ok ok' w x cs},rep ok w x cs→(∀b o,ok b o→ok' b o)→rep ok' w x cs
def RT.val{τ:Type}(r:RT τ)(cs:List Value):Value:=if r.agg then .agg cs.toArray else cs.headD undef
def isV{τ:Type}(r:RT τ)(ok:Ok)(w:World)(x:τ)(v:Value):Prop:=∃cs,r.rep ok w x cs∧v=r.val cs
theorem isV.evo{τ:Type}{r:RT τ}{ok:Ok}{w w':World}{x:τ}{v:Value}(h:isV r ok w x v)(he:Evo ok w w'):isV r ok w' x v :=
 let⟨cs,hr,hv⟩:=h; ⟨cs,r.evo hr he,hv⟩
theorem isV.weak{τ:Type}{r:RT τ}{ok ok':Ok}{w:World}{x:τ}{v:Value}(h:isV r ok w x v)(hk:∀b o,ok b o→ok' b o):isV r ok' w x v :=
 let⟨cs,hr,hv⟩:=h; ⟨cs,r.weak hr hk,hv⟩
def Ik(ok:Ok)(w:World)(b o:Nat)(cs:List Value):Prop:=∀(j:Nat) u,cs[j]?=some u→ok b (o+j)∧w.cell? ⟨b,o+j,none⟩=some u
theorem Ik.evo{ok:Ok}{w w':World}{b o:Nat}{cs:List Value}(h:Ik ok w b o cs)(he:Evo ok w w'):Ik ok w' b o cs :=
 fun j u hu=>⟨(h j u hu).1,(he.cell _ _ (h j u hu).1).trans (h j u hu).2⟩
theorem Ik.weak{ok ok':Ok}{w:World}{b o:Nat}{cs:List Value}(h:Ik ok w b o cs)(hk:∀b o,ok b o→ok' b o):Ik ok' w b o cs :=
 fun j u hu=>⟨hk _ _ (h j u hu).1,(h j u hu).2⟩
def Qky{τ:Type}(r:RT τ)(ok:Ok)(w:World)(x:τ)(p:Value):Prop :=
 ∃b o cs,p=.pointer (some ⟨b,o,none⟩)∧r.rep ok w x cs∧Ik ok w b o cs
theorem Qky.evo{τ:Type}{r:RT τ}{ok:Ok}{w w':World}{x:τ}{v:Value}(h:Qky r ok w x v)(he:Evo ok w w'):Qky r ok w' x v :=
 let⟨b,o,cs,hv,hr,hc⟩:=h; ⟨b,o,cs,hv,r.evo hr he,hc.evo he⟩
theorem Qky.weak{τ:Type}{r:RT τ}{ok ok':Ok}{w:World}{x:τ}{v:Value}(h:Qky r ok w x v)(hk:∀b o,ok b o→ok' b o):Qky r ok' w x v :=
 let⟨b,o,cs,hv,hr,hc⟩:=h; ⟨b,o,cs,hv,r.weak hr hk,hc.weak hk⟩
def T6(k:IntKind):RT Int where
 size:=1
 agg:=false
 rep:=fun _ _ x cs=>cs=[.int k x]
 len:=by grind
 one:=fun _=>rfl
 flat:=by rintro _ _ x cs rfl c hc; simp at hc; subst hc; rfl
 evo:=fun h _=>h
 weak:=fun h _=>h
def Qvc:RT Bool where
 size:=1
 agg:=false
 rep:=fun _ _ x cs=>cs=[.bool x]
 len:=by grind
 one:=fun _=>rfl
 flat:=by rintro _ _ x cs rfl c hc; simp at hc; subst hc; rfl
 evo:=fun h _=>h
 weak:=fun h _=>h
abbrev Str:=List UInt8
def Yo(s:Str):Value:=.string ⟨s.toArray⟩
def Jsr:RT Str where
 size:=1
 agg:=false
 rep:=fun _ _ x cs=>cs=[Yo x]
 len:=by grind
 one:=fun _=>rfl
 flat:=by rintro _ _ x cs rfl c hc; simp at hc; subst hc; rfl
 evo:=fun h _=>h
 weak:=fun h _=>h
def Q1g{τ:Type}(r:RT τ)(ok:Ok)(w:World)(xs:List τ)(v:Value):Prop :=
 ∃A n c,v=.slice A n c∧xs.length=n∧n≤c ∧
  (0<n→∃b o,A=some ⟨b,o,none⟩∧∀i x,xs[i]?=some x→∃cs,r.rep ok w x cs∧Ik ok w b (o+i*r.size) cs)
def rSl{τ:Type}(r:RT τ):RT (List τ) where
 size:=1
 agg:=false
 rep:=fun ok w xs cs=>∃v,cs=[v]∧Q1g r ok w xs v
 len:=by grind
 one:=fun _=>rfl
 flat:=by rintro _ _ x cs ⟨v,rfl,A,n,c,rfl,_⟩ d hd; simp at hd; subst hd; rfl
 evo:=by
  rintro ok w w' xs cs ⟨v,rfl,A,n,c,rfl,hl,hc,hn⟩ he
  refine⟨_,rfl,A,n,c,rfl,hl,hc,fun h0=>?_⟩
  obtain⟨b,o,hA,hx⟩:=hn h0
  refine⟨b,o,hA,fun i x hi=>?_⟩
  obtain⟨cs,hr,ha⟩:=hx i x hi
  exact⟨cs,r.evo hr he,ha.evo he⟩
 weak:=by
  rintro ok ok' w xs cs ⟨v,rfl,A,n,c,rfl,hl,hc,hn⟩ hk
  refine⟨_,rfl,A,n,c,rfl,hl,hc,fun h0=>?_⟩
  obtain⟨b,o,hA,hx⟩:=hn h0
  refine⟨b,o,hA,fun i x hi=>?_⟩
  obtain⟨cs,hr,ha⟩:=hx i x hi
  exact⟨cs,r.weak hr hk,ha.weak hk⟩
theorem Jnk{k:IntKind}{ok:Ok}{w:World}{x:Int}{v:Value}:isV (T6 k) ok w x v↔v=.int k x:=by
 constructor
 ·rintro⟨cs,rfl,rfl⟩; rfl
 ·rintro rfl; exact⟨_,rfl,rfl⟩
theorem Qql{ok:Ok}{w:World}{x:Bool}{v:Value}:isV Qvc ok w x v↔v=.bool x:=by
 constructor
 ·rintro⟨cs,rfl,rfl⟩; rfl
 ·rintro rfl; exact⟨_,rfl,rfl⟩
theorem Jnl{ok:Ok}{w:World}{x:Str}{v:Value}:isV Jsr ok w x v↔v=Yo x:=by
 constructor
 ·rintro⟨cs,rfl,rfl⟩; rfl
 ·rintro rfl; exact⟨_,rfl,rfl⟩
theorem Xb{τ:Type}{r:RT τ}{ok:Ok}{w:World}{xs:List τ}{v:Value}:isV (rSl r) ok w xs v↔Q1g r ok w xs v:=by
 constructor
 ·rintro⟨cs,⟨v',rfl,h⟩,rfl⟩; exact h
 ·intro h; exact⟨[v],⟨v,rfl,h⟩,rfl⟩
structure Fld(σ:Type) where
 τ:Type
 r:RT τ
 get:σ→τ
def Jp2{σ:Type}:List (Fld σ)→Nat
 | []=>0
 | f::fs=>f.r.size+Jp2 fs
def Qcj{σ:Type}(fs:List (Fld σ))(i:Nat):Nat:=Jp2 (fs.take i)
def We{τ:Type}(r:RT τ)(ok:Ok)(w:World):List τ→List Value→Prop
 | [],cs=>cs=[]
 | x::xs,cs=>∃c1 c2,cs=c1++c2∧r.rep ok w x c1∧We r ok w xs c2
theorem Q1h{τ:Type}{r:RT τ}{ok:Ok}{w:World}{xs:List τ}{cs:List Value}(h:We r ok w xs cs):cs.length=xs.length*r.size:=by
 induction xs generalizing cs with
 | nil=>grind [We]
 | cons x xs ih=>obtain⟨c1,c2,rfl,h1,h2⟩:=h; simp[r.len h1,ih h2,Nat.add_mul,ZR]
def Jhw{τ:Type}(n:Nat)(r:RT τ):RT (List τ) where
 size:=n*r.size
 agg:=true
 rep:=fun ok w xs cs=>xs.length=n∧We r ok w xs cs
 len:=by rintro ok w xs cs ⟨rfl,h⟩; exact Q1h h
 one:=fun h=>by cases h
 flat:=by
  rintro ok w xs cs ⟨hl,h⟩
  clear hl
  induction xs generalizing cs with
  | nil=>grind [We]
  | cons f fs ih =>
   obtain⟨c1,c2,rfl,h1,h2⟩:=h
   intro c hc
   rcases QZ.1 hc with hc | hc
   ·exact r.flat h1 c hc
   ·exact ih h2 c hc
 evo:=by
  rintro ok w w' xs cs ⟨hl,h⟩ he
  refine⟨hl,?_⟩
  clear hl
  induction xs generalizing cs with
  | nil=>exact h
  | cons f fs ih=>obtain⟨c1,c2,rfl,h1,h2⟩:=h; exact⟨c1,c2,rfl,r.evo h1 he,ih h2⟩
 weak:=by
  rintro ok ok' w xs cs ⟨hl,h⟩ he
  refine⟨hl,?_⟩
  clear hl
  induction xs generalizing cs with
  | nil=>exact h
  | cons f fs ih=>obtain⟨c1,c2,rfl,h1,h2⟩:=h; exact⟨c1,c2,rfl,r.weak h1 he,ih h2⟩
structure DF where
 p:Ok→World→Prop
 evo:∀{ok w w'},p ok w→Evo ok w w'→p ok w'
 weak:∀{ok ok' w},p ok w→(∀b o,ok b o→ok' b o)→p ok' w
def DF.v{τ:Type}(r:RT τ)(x:τ)(v:Value):DF:=⟨fun ok w=>isV r ok w x v,fun h he=>h.evo he,fun h hk=>h.weak hk⟩
def DF.at{τ:Type}(r:RT τ)(x:τ)(p:Value):DF:=⟨fun ok w=>Qky r ok w x p,fun h he=>h.evo he,fun h hk=>h.weak hk⟩
def Qcy(ok:Ok)(w:World):List DF→Prop
 | []=>True
 | d::ds=>d.p ok w∧Qcy ok w ds
theorem Qcy.evo{ok:Ok}{w w':World}{D:List DF}(h:Qcy ok w D)(he:Evo ok w w'):Qcy ok w' D:=by
 induction D with
 | nil=>trivial
 | cons d ds ih=>exact⟨d.evo h.1 he,ih h.2⟩
theorem Qcy.weak{ok ok':Ok}{w:World}{D:List DF}(h:Qcy ok w D)(hk:∀b o,ok b o→ok' b o):Qcy ok' w D:=by
 induction D with
 | nil=>trivial
 | cons d ds ih=>exact⟨d.weak h.1 hk,ih h.2⟩
theorem Qcy.get{ok:Ok}{w:World}{D:List DF}(h:Qcy ok w D){i:Nat}{d:DF}(hi:D[i]?=some d):d.p ok w:=by
 induction D generalizing i with
 | nil=>simp at hi
 | cons e ds ih =>
  cases i with
  | zero=>simp at hi; subst hi; exact h.1
  | succ i=>simp at hi; exact ih h.2 hi
inductive AV where
 | v (x:Value)
 | o (id off:Nat)
structure HB where
 cs:List Value
 t:TypeId
def Jo{α:Type}:List (Nat×α)→Nat→Option α
 | [],_=>none
 | (k,x)::l,t=>bif Nat.beq k t then some x else Jo l t
theorem Dq{α:Type}{l:List (Nat×α)}{t:Nat}{x:α}(h:Jo l t=some x):(t,x)∈l:=by
 induction l with
 | nil=>simp[Jo]at h
 | cons p l ih =>
  obtain⟨k,y⟩:=p
  simp only[Jo]at h
  cases hb:Nat.beq k t with
  | true=>rw[hb]at h; simp_all
  | false=>rw[hb]at h; grind
def Q1i{α:Type}:List (Nat×α)→Nat→List (Nat×α)
 | [],_=>[]
 | (k,x)::l,t=>bif Nat.beq k t then Q1i l t else(k,x)::Q1i l t
theorem Qiu{α:Type}{l:List (Nat×α)}{t:Nat}{p:Nat×α}(h:p∈Q1i l t):p∈l∧p.1≠t:=by
 induction l with
 | nil=>simp[Q1i]at h
 | cons q l ih =>
  obtain⟨k,y⟩:=q
  simp only[Q1i]at h
  cases hb:Nat.beq k t with
  | true=>rw[hb]at h; grind
  | false =>
   rw[hb]at h
   simp only[cond_false,QX]at h
   rcases h with rfl | h
   ·grind [Nat.beq_refl]
   grind
def He{α:Type}(l:List (Nat×α))(t:Nat)(x:α):List (Nat×α):=(t,x)::Q1i l t
def den(β:Nat→Nat):AV→Value
 | .v x=>x
 | .o id off=>.pointer (some ⟨β id,off,none⟩)
def Wn:Value→Nat
 | .slice _ n _=>n
 | _=>0
structure TL where
 blks:Nat→Prop
 cov:Nat→Nat→Prop
 cb:∀{b o},cov b o→blks b
 p:Ok→World→Prop
 keep:∀{ok w w'},p ok w→(∀g,blks g→w'.heap[g]?=w.heap[g]?)→Evo ok w w'→p ok w'
 weak:∀{ok ok' w},p ok w→(∀b o,ok b o→ok' b o)→p ok' w
 lt:∀{ok w},p ok w→∀g,blks g→g<w.heap.size
theorem T7{base e s:Nat}{v:Value}{n:Nat}{xs:List Value}{w w':World}(hx:w.ownsRowS base e s v n xs)(hb:∀g,v.ownBlock=some g→w'.heap[g]?=w.heap[g]?):w'.ownsRowS base e s v n xs:=by
 refine⟨hx.1,?_⟩
 rcases hx.2 with h1 | ⟨g,cap,cur,fz,hv,hg,hh,r⟩
 ·exact .inl h1
 ·refine .inr ⟨g,cap,cur,fz,hv,hg,?_,r⟩
  rw[hb g (by rw[hv]; rfl)]; exact hh
def tl(v:Value)(e s:Nat):TL where
 blks:=fun g=>v.ownBlock=some g
 cov:=fun b o=>v.ownBlock=some b∧Wn v*s≤o
 cb:=fun h=>h.1
 p:=fun _ w=>∃xs,w.ownsRowS 0 e s v (Wn v) xs
 keep:=fun⟨xs,h⟩ hb _=>⟨xs,T7 h hb⟩
 weak:=fun h _=>h
 lt:=fun⟨_,h⟩ g hg=>(h.lt g hg).2
abbrev GL:=List (Nat×AV)
abbrev HL:=List (Nat×HB)
def Jk(ok0:Ok)(B:Nat)(β:Nat→Nat)(H:HL)(O:List TL)(w:World):Ok:=fun b o =>
 (ok0 b o∨B≤b)∧b<w.heap.size∧(∀h∈H,β h.1≠b)∧(∀t∈O,¬ t.cov b o)
structure Cx where
 n:Nat
 ok:Ok
 w:World
 res:List Nat
 a0:Act
 pin:Option (Nat→Nat)
 lent:List Nat
 lok:∀g∈lent,∀o,ok g o
 dfs:List Deferred
def okL(L:List Nat)(ok:Ok):Ok:=fun b o=>ok b o∨b∈L
abbrev cxL(L:List Nat)(n:Nat)(ok:Ok)(w:World):Cx:=⟨n,okL L ok,w,[],⟨#[],[]⟩,none,L,fun _ hg _=>.inr hg,[]⟩
def Cx.mine(X:Cx)(g:Nat):Prop:=X.w.heap.size≤g∨g∈X.lent
theorem Cx.mine_ok{X:Cx}{g:Nat}(h:X.mine g)(o:Nat):X.ok g o∨X.w.heap.size≤g:=h.elim .inr fun h=>.inl (X.lok g h o)
def Qqm(X:Cx):Bool:=match X.pin with
 | none=>true
 | some _=>false
theorem Jhx{X:Cx}(h:Qqm X=true):X.pin=none:=by
 grind [Qqm]
def Qnd:List Nat→Nat→Bool
 | [],_=>true
 | k::l,t=>bif Nat.beq k t then false else Qnd l t
theorem Q1j{l:List Nat}{t:Nat}(h:Qnd l t=true):t∉l:=by
 induction l with
 | nil=>simp
 | cons k l ih =>
  simp only[Qnd]at h
  cases hb:Nat.beq k t with
  | true=>rw[hb]at h; cases h
  | false =>
   rw[hb]at h
   intro hm
   simp_all
def okD(X:Cx)(d:Nat):Bool:=Nat.blt d X.n&&(Qnd X.res d&&Nat.blt d 100000)
theorem Qkz{X:Cx}{d:Nat}(h:okD X d=true):d<X.n:=by
 simp_all [okD,QJ,Nat.lt_of_succ_le,QW]
theorem Qpv{X:Cx}{d:Nat}(h:okD X d=true):d∉X.res:=by
 simp_all [okD,QJ,Q1j]
theorem Qfa{X:Cx}{d:Nat}(h:okD X d=true):Nat.blt d 100000=true:=by
 simp_all [okD,QJ]
structure Sb(β:Nat→Nat)(X:Cx)(G:GL)(D:List DF)(H:HL)(O:List TL)(a:Act)(w:World):Prop where
 sz:a.tmps.size=X.n
 df:a.defers=X.dfs
 fr:∀t∈X.res,a.tmps[t]?=X.a0.tmps[t]?
 pn:∀f,X.pin=some f→∀h∈H,β h.1=f h.1
 tm:∀p∈G,a.tmps[p.1]?=some (den β p.2)
 bel:Vi X.lent X.w.heap.size X.w w
 dat:Qcy (Jk X.ok X.w.heap.size β H O w) w D
 obj:∀h∈H,w.heap[β h.1]?=some (.cells h.2.cs.toArray h.2.t (0,0))∧X.mine (β h.1)
 own:∀t∈O,t.p (Jk X.ok X.w.heap.size β H O w) w∧∀g,t.blks g→X.mine g
 dHH:∀h∈H,∀h'∈H,h.1≠h'.1→β h.1≠β h'.1
 dHO:∀h∈H,∀t∈O,¬ t.blks (β h.1)
 dOO:O.Pairwise fun s t=>∀g,s.blks g→¬ t.blks g
def St(X:Cx)(G:GL)(D:List DF)(H:HL)(O:List TL)(a:Act)(w:World):Prop:=∃β,Sb β X G D H O a w
section
variable {β:Nat→Nat} {X:Cx} {G:GL} {D:List DF} {H:HL} {O:List TL} {a:Act} {w w':World}
theorem Qk0{ok0:Ok}(h:w.heap.size≤w'.heap.size){B:Nat}(b o:Nat):Jk ok0 B β H O w b o→Jk ok0 B β H O w' b o :=
 fun⟨h1,h2,h3,h4⟩=>⟨h1,by omega,h3,h4⟩
theorem Vh{w:World}{g:Nat}{o:Obj}(h:w.heap[g]?=some o):g<w.heap.size:=by
 grind
theorem Sb.olt(h:Sb β X G D H O a w){t:TL}(ht:t∈O){g:Nat}(hg:t.blks g):g<w.heap.size:=t.lt (h.own t ht).1 g hg
theorem Sb.hlt(h:Sb β X G D H O a w){p:Nat×HB}(hp:p∈H):β p.1<w.heap.size:=Vh (h.obj p hp).1
theorem Sb.below(h:Sb β X G D H O a w)(hb:Below w.heap.size w w'):Sb β X G D H O a w' where
 sz:=h.sz
 df:=h.df
 fr:=h.fr
 pn:=h.pn
 tm:=h.tm
 bel:=h.bel.trans (Vi.of _ (hb.mono h.bel.size))
 dat:=(h.dat.evo ((Evo.of_below hb).mono fun b o hk=>hk.2.1)).weak (Qk0 hb.size)
 obj:=fun o ho=>⟨by rw[hb.block _ (Vh (h.obj o ho).1),(h.obj o ho).1],(h.obj o ho).2⟩
 own:=fun t ht=>⟨t.weak (t.keep (h.own t ht).1 (fun g hg=>hb.block g (h.olt ht hg)) ((Evo.of_below hb).mono fun b o hk=>hk.2.1)) (Qk0 hb.size),(h.own t ht).2⟩
 dHH:=h.dHH
 dHO:=h.dHO
 dOO:=h.dOO
theorem Sb.act{a':Act}{G':GL}(h:Sb β X G D H O a w)(hs:a'.tmps.size=a.tmps.size)(hd:a'.defers=a.defers)(hr:∀t∈X.res,a'.tmps[t]?=a.tmps[t]?)
  (hg:∀p∈G',a'.tmps[p.1]?=some (den β p.2)):Sb β X G' D H O a' w :=
 { h with sz:=hs.trans h.sz,df:=hd.trans h.df,fr:=fun t ht=>(hr t ht).trans (h.fr t ht),tm:=hg }
theorem Sb.put(h:Sb β X G D H O a w){t:Nat}(ht:okD X t=true)(x:AV):Sb β X (He G t x) D H O (a.put (some t) (den β x)) w:=by
 refine h.act (by simp[Act.put]) rfl (fun k hk=>?_) fun p hp=>?_
 ·have hne:t≠k:=fun e=>Qpv ht (e▸hk)
  simp[Act.put,hne]
 simp only[He,QX]at hp
 rcases hp with rfl | hp
 ·simp[Act.put,h.sz,Qkz ht]
 ·obtain⟨hp,hne⟩:=Qiu hp
  have hne':t≠p.1:=fun e=>hne e.symm
  simp[Act.put,hne',h.tm p hp]
theorem Qcy.less{ok:Ok}{D D':List DF}(h:Qcy ok w D)(hd:∀d∈D',d∈D):Qcy ok w D':=by
 have key:∀d∈D,d.p ok w:=by
  intro d hm
  obtain⟨i,hi,rfl⟩:=ZV hm
  exact h.get (List.getElem?_eq_getElem hi)
 clear h
 induction D' with
 | nil=>trivial
 | cons e ds ih=>exact⟨key e (hd e (.head _)),ih fun d hm=>hd d (.tail _ hm)⟩
end
end Gd

/- The quiet operations of a walk, evaluated by a function; its soundness. -/
namespace Gd
open Go Go.RowKit
set_option linter.unusedVariables false
set_option linter.unusedSimpArgs false
structure TE where
 t:TypeId
 d:TypeDesc
 z:Value
 size:Nat
 bytes:Nat
abbrev Tab:=List TE
def Q9(P:Program):Tab→Prop
 | []=>True
 | e::T=>(((P.info? e.t).map (fun i=>(i.zero,i.size,i.bytes))=some (some e.z,e.size,e.bytes)∧P.underlying e.t=some e.d)∧(P.stoodInHeld e.t||P.eqGuardType P.depth e.t)=false)∧Q9 P T
def Qj:Tab→TypeId→Option TE
 | [],_=>none
 | e::T,t=>bif Nat.beq e.t t then some e else Qj T t
theorem Jv{P:Program}{T:Tab}(h:Q9 P T){t:TypeId}{e:TE}(he:Qj T t=some e) :
  (P.info? t).map (fun i=>(i.zero,i.size,i.bytes))=some (some e.z,e.size,e.bytes)∧P.underlying t=some e.d:=by
 induction T with
 | nil=>simp[Qj]at he
 | cons x T ih =>
  simp only[Qj]at he
  cases hb:Nat.beq x.t t with
  | true=>rw[hb]at he; simp only[cond_true,Option.some.injEq]at he; subst he; have:=Nat.eq_of_beq_eq_true hb; subst this; exact h.1.1
  | false=>rw[hb]at he; exact ih h.2 he
theorem Q1k{P:Program}{T:Tab}(h:Q9 P T){t:TypeId}{e:TE}(he:Qj T t=some e):P.stoodInHeld t=false∧P.eqGuardType P.depth t=false:=by
 induction T with
 | nil=>simp[Qj]at he
 | cons x T ih =>
  simp only[Qj]at he
  cases hb:Nat.beq x.t t with
  | true=>rw[hb]at he; simp only[cond_true,Option.some.injEq]at he; subst he; have:=Nat.eq_of_beq_eq_true hb; subst this; simpa[XR]using h.1.2
  | false=>rw[hb]at he; exact ih h.2 he
theorem Hg{P:Program}{T:Tab}(h:Q9 P T){t:TypeId}{e:TE}(he:Qj T t=some e) :
  ∃i,P.info? t=some i∧i.zero=some e.z∧i.size=e.size∧i.bytes=e.bytes:=by
 have:=(Jv h he).1
 simp_all
def Zy:TypeDesc→Bool
 | .struct _ | .array _ _=>true
 | _=>false
section
variable {P:Program} {T:Tab} (hT:Q9 P T) (w:World)
include hT
theorem Qiv{t:TypeId}{e:TE}(he:Qj T t=some e):∃i,(typeInfo t).run P w=.ok i w∧i.zero=some e.z∧i.size=e.size∧i.bytes=e.bytes:=by
 obtain⟨i,hi,h1,h2,h3⟩:=Hg hT he
 simp_all [typeInfo]
theorem J0{t:TypeId}{e:TE}(he:Qj T t=some e):(Go.sizeOf t).run P w=.ok e.size w:=by
 obtain⟨i,hi,h1,h2,h3⟩:=Qiv hT w he
 simp[Go.sizeOf,hi,h2]
theorem Y6{t:TypeId}{e:TE}(he:Qj T t=some e):(zeroValue t).run P w=.ok e.z w:=by
 obtain⟨i,hi,h1,h2,h3⟩:=Qiv hT w he
 simp[zeroValue,hi,h1]
theorem Jh{t:TypeId}{e:TE}(he:Qj T t=some e):(underlying t).run P w=.ok e.d w :=
 run_underlying (Jv hT he).2 w
theorem Qvd{t:TypeId}{e:TE}(he:Qj T t=some e):(isAgg t).run P w=.ok (Zy e.d) w:=by
 simp only[isAgg,Sem.run_bind,Jh hT w he,Result.andThen_ok]
 cases e.d<;>rfl
theorem Qiw{t:TypeId}{e:TE}(he:Qj T t=some e)(cs:List Value)(off:Nat){v:Value}
  (hv:(if Zy e.d then some (.agg ((cs.drop off).take e.size).toArray)else cs[off]?)=some v):(part t cs.toArray off).run P w=.ok v w:=by
 simp only[part,Sem.run_bind,Qvd hT w he,Result.andThen_ok]
 cases ha:Zy e.d with
 | true =>
  rw[ha]at hv
  simp only[if_true,Option.some.injEq]at hv
  subst hv
  simp[J0 hT w he,List.take_drop]
 | false =>
  rw[ha]at hv
  simp_all
theorem Pj{t:TypeId}{e:TE}(he:Qj T t=some e)(b o:Nat)(cs:List Value)(hl:cs.length=e.size)(hone:Zy e.d=false→cs.length=1)
  (hc:∀(j:Nat) u,cs[j]?=some u→w.cell? ⟨b,o+j,none⟩=some u) :
  (loadVar t ⟨b,o,none⟩).run P w=.ok (if Zy e.d then .agg cs.toArray else cs.headD undef) w:=by
 simp only[loadVar,Sem.run_bind,Qvd hT w he,Result.andThen_ok]
 cases ha:Zy e.d with
 | true =>
  simp only[if_true,Sem.run_bind,J0 hT w he,Result.andThen_ok,←hl]
  rw[run_loadCells_list w ⟨b,o,none⟩ cs (fun j v hj=>by rw[Addr.add_lit]; exact hc j v hj)]
  simp
 | false =>
  have h1:=hone ha
  match cs,h1 with
  | [c],_ =>
   have:=hc 0 c rfl
   simp_all
end
theorem Zc(β:Nat→Nat)(x:Value):den β (.v x)=x:=rfl
theorem Qcz(β:Nat→Nat)(id off:Nat):den β (.o id off)=.pointer (some ⟨β id,off,none⟩):=rfl
def gv(G:GL):Operand→Option AV
 | .tmp t=>Jo G t
 | .const v=>some (.v v)
 | .func f=>some (.v (.func (.func f) #[] #[]))
 | .global g=>some (.v (.pointer (some ⟨g,0,none⟩)))
def Q7h(op:BinOp)(k:IntKind)(a b:Int):Option Value :=
 match op with
 | .add=>some (.int k (k.wrap (a+b)))
 | .sub=>some (.int k (k.wrap (a - b)))
 | .mul=>some (.int k (k.wrap (a*b)))
 | .eql=>some (.bool (a==b))
 | .neq=>some (.bool (a != b))
 | .lss=>some (.bool (decide (a<b)))
 | .leq=>some (.bool (decide (a≤b)))
 | .gtr=>some (.bool (decide (a>b)))
 | .geq=>some (.bool (decide (a≥b)))
 | .and=>some (.int k (Go.bits .and k a b))
 | .or=>some (.int k (Go.bits .or k a b))
 | .xor=>some (.int k (Go.bits .xor k a b))
 | .andNot=>some (.int k (Go.bits .andNot k a b))
 | _=>none
def Qye(op:BinOp)(k:IntKind)(a:Int):Int→Option Value
 | .ofNat (b+1)=>match op with
  | .quo=>some (.int k (k.wrap (a.tdiv (.ofNat (b+1)))))
  | .rem=>some (.int k (a.tmod (.ofNat (b+1))))
  | _=>none
 | _=>none
def Q7i(op:BinOp)(a b:Str):Option Value :=
 match op with
 | .eql=>some (.bool (a==b))
 | .neq=>some (.bool !(a==b))
 | .lss=>some (.bool (Op.bytesLess a b))
 | .leq=>some (.bool (Op.bytesLess a b||a==b))
 | .gtr=>some (.bool !(Op.bytesLess a b||a==b))
 | .geq=>some (.bool !(Op.bytesLess a b))
 | _=>none
def Sf:IntKind→IntKind→Bool
 | .i8,.i8 | .i16,.i16 | .i32,.i32 | .i64,.i64 | .u8,.u8 | .u16,.u16 | .u32,.u32 | .u64,.u64=>true
 | _,_=>false
theorem Iq{a b:IntKind}(h:Sf a b=true):a=b:=by cases a<;>cases b<;>simp_all [Sf]
def Jp3:BinOp→Bool
 | .quo | .rem=>true
 | _=>false
def Qpw(T:Tab)(t:TypeId):Bool :=
 match Qj T t with
 | some ⟨_,.bool,_,_,_⟩=>true
 | _=>false
def Qk1(T:Tab)(op:BinOp)(t:TypeId)(x y:Value):Option Value :=
 match x,y with
 | .int k a,.int k' b=>bif Sf k k' then(bif Jp3 op then Qye op k a b else Q7h op k a b)else none
 | .bool a,.bool b=>bif Qpw T t then(match op with
  | .eql=>some (.bool (a==b))
  | .neq=>some (.bool (a != b))
  | _=>none)else none
 | .string ⟨⟨a⟩⟩,.string ⟨⟨b⟩⟩=>Q7i op a b
 | _,_=>none
def Jad(op:UnOp)(x:Value):Option Value :=
 match op,x with
 | .neg,.int k n=>some (.int k (k.wrap (0 - n)))
 | .not,.bool b=>some (.bool !b)
 | _,_=>none
def Jhy(c:Bool)(x y:Option AV):Option AV :=
 match x,y with
 | some (.v (.bool p)),some (.v (.bool q))=>some (.v (.bool (bif c then p else q)))
 | _,_=>match c with
  | true=>x
  | false=>y
def Qix(T:Tab)(fs:Array Field)(f:Nat):Option Nat :=
 match fs[f]? with
 | some fd=>match Qj T fd.type with
  | some ⟨_,_,_,_+1,_⟩=>some fd.offset
  | _=>none
 | none=>none
def cellsOf?(T:Tab)(t:TypeId)(cs:List Value)(off:Nat):Option Value :=
 match Qj T t with
 | some e=>bif Zy e.d then(if off+e.size≤cs.length then some (.agg ⟨(cs.drop off).take e.size⟩)else none)else(bif Nat.beq e.size 1 then cs[off]? else none)
 | none=>none
def Qfb(T:Tab):List Field→Option (List (Nat×Nat))
 | []=>some []
 | f::fs=>match Qj T f.type,Qfb T fs with
  | some e,some ps=>some ((f.offset,e.size)::ps)
  | _,_=>none
def evParts(G:GL):List (Nat×Operand)→Option (List (Nat×Value))
 | []=>some []
 | (i,x)::xs=>match gv G x,evParts G xs with
  | some (.v v),some vs=>some ((i,v)::vs)
  | _,_=>none
def Q1l(cs:List Value)(off:Nat)(vs:List Value):List Value:=cs.take off++vs++cs.drop (off+vs.length)
def Qv:Value→List Value
 | .agg ⟨cs⟩=>cs
 | v=>[v]
theorem Yq(v:Value):Qv v=v.cells.toList:=by cases v<;>rfl
def Nl(ps:Nat→Option (Nat×Nat))(cs:List Value):List (Nat×Value)→Option (List Value)
 | []=>some cs
 | (i,v)::rest=>match ps i with
  | none=>none
  | some (off,size) =>
   bif Nat.beq (Qv v).length size&&Nat.ble (off+(Qv v).length) cs.length then Nl ps (Q1l cs off (Qv v)) rest else none
def Q7j(T:Tab)(G:GL)(H:HL):Op→Option AV
 | .move x | .assign x=>gv G x
 | .pick c a b=>match gv G c with
  | some (.v (.bool c))=>Jhy c (gv G a) (gv G b)
  | _=>none
 | .binOp op t x y _=>match gv G x,gv G y with
  | some (.v x),some (.v y)=>(Qk1 T op t x y).map .v
  | _,_=>none
 | .unOp op _ x=>match gv G x with
  | some (.v x)=>(Jad op x).map .v
  | _=>none
 | .fieldAddr s x f=>match Qj T s,gv G x with
  | some ⟨_,.struct fs,_,_,_⟩,some (.o id off)=>(Qix T fs f).map fun k=>.o id (off+k)
  | _,_=>none
 | .load t x=>match gv G x with
  | some (.o id off)=>match Jo H id with
   | some o=>(cellsOf? T t o.cs off).map .v
   | none=>none
  | _=>none
 | .field s x f=>match Qj T s,gv G x with
  | some ⟨_,.struct fs,_,_,_⟩,some (.v (.agg ⟨cs⟩))=>match fs[f]? with
   | some fd=>(cellsOf? T fd.type cs fd.offset).map .v
   | none=>none
  | _,_=>none
 | .extract x i=>match gv G x with
  | some (.v (.tuple ⟨vs⟩))=>(vs[i]?).map .v
  | _=>none
 | .call { callee:=.builtin .len,args:=⟨[x]⟩,argTypes:=⟨[t]⟩ }=>match Qj T t,gv G x with
  | some ⟨_,.slice _,_,_,_⟩,some (.v (.slice _ n _))=>some (.v (.int .i64 n))
  | some ⟨_,.string,_,_,_⟩,some (.v (.string ⟨⟨l⟩⟩))=>some (.v (.int .i64 l.length))
  | some ⟨_,.array n _,_,_,_⟩,_=>some (.v (.int .i64 n))
  | _,_=>none
 | .call { callee:=.builtin .max,args:=⟨[x,y]⟩,argTypes:=_ }=>match gv G x,gv G y with
  | some (.v (.int k a)),some (.v (.int _ b))=>some (.v (.int k (if b>a then b else a)))
  | _,_=>none
 | .call { callee:=.builtin .min,args:=⟨[x,y]⟩,argTypes:=_ }=>match gv G x,gv G y with
  | some (.v (.int k a)),some (.v (.int _ b))=>some (.v (.int k (if b<a then b else a)))
  | _,_=>none
 | .build t ⟨parts⟩=>match Qj T t with
  | some ⟨_,.struct ⟨fs⟩,.agg ⟨z⟩,_,_⟩=>match Qfb T fs,evParts G parts with
   | some ps,some vs=>match Nl (fun i=>ps[i]?) z vs with
    | some cs=>some (.v (.agg ⟨cs⟩))
    | none=>none
   | _,_=>none
  | _=>none
 | .convert s t x=>match Qj T s,Qj T t,gv G x with
  | some ⟨_,.int _,_,_,_⟩,some ⟨_,.int k,_,_,_⟩,some (.v (.int _ n))=>some (.v (.int k (k.wrap n)))
  | _,_,_=>none
 | _=>none
section
variable {P:Program} {T:Tab} {β:Nat→Nat} {X:Cx} {G:GL} {D:List DF} {H:HL} {O:List TL} {a:Act} {w w':World}
theorem Sb.ev(h:Sb β X G D H O a w){x:Operand}{v:AV}(hx:gv G x=some v):a.eval x=den β v:=by
 cases x with
 | tmp t =>
  have:=h.tm _ (Dq hx)
  simp_all [Act.eval]
 | const v=>simp[gv]at hx; subst hx; rfl
 | func f=>simp[gv]at hx; subst hx; rfl
 | global g=>simp[gv]at hx; subst hx; rfl
theorem Jdf{op:BinOp}{t:TypeId}{a b:Str}{v:Value}(h:Q7i op a b=some v):(binOp op t (.string ⟨⟨a⟩⟩) (.string ⟨⟨b⟩⟩))=(pure v:Sem Value):=by
 have ha:(ByteArray.mk ⟨a⟩).toList=a:=ByteArray.toList_mk a
 have hb:(ByteArray.mk ⟨b⟩).toList=b:=ByteArray.toList_mk b
 cases op<;>simp[Q7i]at h<;>subst h<;>simp[binOp,Op.stringOp,ha,hb]
theorem Jdg{op:BinOp}{t:TypeId}{k:IntKind}{a b:Int}{v:Value}(h:Q7h op k a b=some v):(binOp op t (.int k a) (.int k b))=(pure v:Sem Value):=by
 cases op<;>simp[Q7h]at h<;>subst h<;>simp[binOp,Op.intArith,Op.intCmp]<;>rfl
theorem Q7k{op:BinOp}{t:TypeId}{k:IntKind}{a b:Int}{v:Value}(h:Qye op k a b=some v):(binOp op t (.int k a) (.int k b))=(pure v:Sem Value):=by
 unfold Qye at h
 split at h
 ·rename_i m
  have hm:(Int.ofNat (m+1))≠0:=by grind
  cases op<;>first | (simp at h; done) | skip
  ·simp_all [Option.some.injEq,binOp_quo,Op.intDiv,if_neg]
  simp_all [Option.some.injEq,binOp_rem,Op.intDiv,if_neg]
 ·cases h
theorem Q7l(hT:Q9 P T){t:TypeId}(h:Qpw T t=true):P.underlying t=some .bool:=by
 unfold Qpw at h
 split at h
 ·rename_i he; exact(Jv hT he).2
 ·cases h
theorem Q7m{t:TypeId}(ht:P.underlying t=some .bool)(a b:Bool)(w:World):(Op.equal t (.bool a) (.bool b)).run P w=.ok (a==b) w:=by
 have h:∀d:Nat,(Op.equalIn (d+1) t (.bool a) (.bool b)).run P w=.ok (a==b) w:=fun d=>by
  simp[Op.equalIn,run_underlying ht]
 exact h 9999
theorem Qve(hT:Q9 P T){op:BinOp}{t:TypeId}{x y v:Value}(h:Qk1 T op t x y=some v)(w:World):(binOp op t x y).run P w=.ok v w:=by
 unfold Qk1 at h
 split at h
 ·rename_i k a k' b
  cases hk:Sf k k' with
  | false=>rw[hk]at h; cases h
  | true =>
   rw[hk]at h
   have:=Iq hk
   subst this
   simp only[cond_true]at h
   cases hd:Jp3 op with
   | true=>rw[hd]at h; rw[Q7k h]; rfl
   | false=>rw[hd]at h; rw[Jdg h]; rfl
 ·rename_i a b
  cases hb:Qpw T t with
  | false=>rw[hb]at h; cases h
  | true =>
   rw[hb]at h
   have hu:=Q7l hT hb
   cases op<;>simp at h<;>subst h<;>simp[binOp,Q7m hu]
   cases a<;>cases b<;>rfl
 ·rw[Jdf h]; rfl
 ·cases h
theorem Q1m{op:UnOp}{x v:Value}(h:Jad op x=some v)(w:World):(Op.unary op x).run P w=.ok v w:=by
 unfold Jad at h
 split at h<;>simp at h<;>subst h<;>simp[Op.unary,Op.intArith]
theorem Qiy{op:BinOp}{t:TypeId}{x y:Value}{p q:Operand}{v:Value}(h:Qk1 T op t x y=some v):eqGuard op t p q x y=pure ():=by
 unfold Qk1 at h
 grind [eqGuard_at_int,eqGuard_at_bool,eqGuard_at_string]
theorem Jhz{c:Bool}{x y:Option AV}{v:AV}(h:Jhy c x y=some v):(if c then x else y)=some v:=by
 unfold Jhy at h
 grind
theorem cellsOf?_ok(hT:Q9 P T){t:TypeId}{cs:List Value}{off:Nat}{v:Value}(h:cellsOf? T t cs off=some v) :
  ∃e,Qj T t=some e∧(if Zy e.d then some (Value.agg ((cs.drop off).take e.size).toArray)else cs[off]?)=some v∧off+e.size≤cs.length∧(Zy e.d=false→e.size=1):=by
 unfold cellsOf? at h
 split at h
 ·rename_i e he
  refine⟨e,he,?_⟩
  cases ha:Zy e.d with
  | true =>
   rw[ha]at h
   grind
  | false =>
   rw[ha]at h
   simp only[cond_false]at h
   cases hb:Nat.beq e.size 1 with
   | false=>rw[hb]at h; cases h
   | true =>
    rw[hb]at h
    simp only[cond_true]at h
    have:=Nat.eq_of_beq_eq_true hb
    grind
 ·cases h
theorem Sb.cell(h:Sb β X G D H O a w){id:Nat}{o:HB}(ho:Jo H id=some o)(i:Nat):w.cell? ⟨β id,i,none⟩=o.cs[i]?:=by
 have:=(h.obj _ (Dq ho)).1
 grind [World.cell?]
theorem Qne{fs:Array Field}{f k:Nat}(h:Qix T fs f=some k):∃fd,fs[f]?=some fd∧fd.offset=k∧∃e,Qj T fd.type=some e∧e.size≠0:=by
 grind [Qix]
theorem Q1n(l:List UInt8):(ByteArray.mk ⟨l⟩).size=l.length:=rfl
theorem Qhc(hT:Q9 P T):∀{fs:List Field} {ps:List (Nat×Nat)},Qfb T fs=some ps→fs.mapM (fun f=>(P.info? f.type).map fun i=>(f.offset,i.size))=some ps
 | [],ps,h=>by grind [Qfb]
 | f::fs,ps,h=>by
  simp only[Qfb]at h
  split at h
  ·rename_i e ps' he hp
   simp at h; subst h
   obtain⟨i,hi,_,hs,_⟩:=Hg hT he
   simp[VJ,hi,hs,Qhc hT hp]
  ·cases h
theorem T8(h:Sb β X G D H O a w):∀{xs:List (Nat×Operand)} {vs:List (Nat×Value)},evParts G xs=some vs→xs.map (fun p=>(p.1,a.eval p.2))=vs
 | [],vs,hv=>by grind [evParts]
 | (i,x)::xs,vs,hv=>by
  simp only[evParts]at hv
  split at hv
  ·rename_i v us h1 h2
   simp at hv; subst hv
   simp[h.ev h1,Zc,T8 h h2]
  ·cases hv
theorem Jnm(cs:List Value)(off:Nat)(vs:List Value)(hle:off+vs.length≤cs.length) :
  (vs.toArray.zipIdx.foldl (fun cs (c,j)=>cs.setIfInBounds (off+j) c) cs.toArray)=(Q1l cs off vs).toArray:=by
 have key:∀(vs:List Value) (k:Nat) (cs:List Value),off+k+vs.length≤cs.length →
   (vs.zipIdx k).foldl (fun(cs:Array Value) (p:Value×Nat)=>cs.setIfInBounds (off+p.2) p.1) cs.toArray=(cs.take (off+k)++vs++cs.drop (off+k+vs.length)).toArray:=by
  intro vs
  induction vs with
  | nil=>simp_all
  | cons v vs ih =>
   intro k cs hl
   simp only[List.zipIdx_cons,XM,List.length_cons]at hl ⊢
   have hlt:off+k<cs.length:=by omega
   rw[List.setIfInBounds_toArray,ih (k+1) _ (by simp; omega)]
   congr 1
   have e1:off+(k+1)=off+k+1:=by omega
   rw[e1,List.take_set,List.drop_set_of_lt (by omega)]
   rw[List.take_succ_eq_append_getElem hlt,KR _ _ (by simp; omega)]
   simp only[List.length_take,Nat.min_eq_left (Nat.le_of_lt hlt),Nat.sub_self,List.set_cons_zero]
   grind
 have:=key vs 0 cs (by simpa using hle)
 simp_all [XU,Array.foldl_toList,Q1l]
theorem Nm(ps:Nat→Option (Nat×Nat)):∀{vs:List (Nat×Value)} {cs cs':List Value},Nl ps cs vs=some cs'→Instr.fill ps cs.toArray vs=some cs'.toArray
 | [],cs,cs',h=>by simp[Nl]at h; subst h; rfl
 | (i,v)::rest,cs,cs',h=>by
  simp only[Nl]at h
  split at h
  ·cases h
  ·rename_i off size hp
   rw[Yq]at h
   cases hb:(Nat.beq v.cells.toList.length size&&Nat.ble (off+v.cells.toList.length) cs.length)with
   | false=>rw[hb]at h; cases h
   | true =>
    rw[hb]at h
    simp only[cond_true]at h
    simp only[QJ]at hb
    have h1:=Nat.eq_of_beq_eq_true hb.1
    have h2:=QW hb.2
    have:=Nm ps h
    simp only[Array.length_toList]at h1 h2
    unfold Instr.fill
    simp only[hp]
    rw[if_neg (by simp; omega)]
    have hl:=Jnm cs off v.cells.toList (by simpa using h2)
    simp_all
theorem Qvf(hT:Q9 P T)(h:Sb β X G D H O a w){o:Oper}{v:AV}(hv:Q7j T G H o.op=some v) :
  (execOp a.eval o).run P w=.ok (.value (den β v)) w:=by
 unfold execOp
 generalize o.op=op at hv
 unfold Q7j at hv
 split at hv
 ·dsimp only; rw[h.ev hv]; rfl
 ·dsimp only; rw[h.ev hv]; rfl
 ·split at hv
  ·rename_i c hc
   have hp:=Jhz hv
   simp only[h.ev hc,Zc,Qcz]
   cases c with
   | true=>simp at hp; simp[asBool,h.ev hp]
   | false=>simp at hp; simp[asBool,h.ev hp]
  ·cases hv
 ·split at hv
  ·rename_i x y hx hy
   obtain⟨u,hu,rfl⟩:=JG.1 hv
   simp only[h.ev hx,h.ev hy,Zc,Qcz]
   simp[Qiy hu,Qve hT hu]
  ·cases hv
 ·split at hv
  ·rename_i x hx
   obtain⟨u,hu,rfl⟩:=JG.1 hv
   simp only[h.ev hx,Zc,Qcz]
   simp[Q1m hu]
  ·cases hv
 ·split at hv
  ·rename_i fs _ _ _ id off hs hx
   obtain⟨k,hk,rfl⟩:=JG.1 hv
   obtain⟨f,hf,rfl,e,he,hne⟩:=Qne hk
   simp only[h.ev hx,Zc,Qcz]
   simp[Instr.fieldAt,Jh hT w hs,hf,Instr.sureAddr,fieldPlace,Addr.add_lit,J0 hT w he,hne]
  ·cases hv
 ·split at hv
  ·rename_i id off hx
   split at hv
   ·rename_i ob hob
    obtain⟨u,hu,rfl⟩:=JG.1 hv
    obtain⟨e,he,hc,hle,h1⟩:=cellsOf?_ok hT hu
    simp only[h.ev hx,Zc,Qcz]
    have hlen:((ob.cs.drop off).take e.size).length=e.size:=by simp; omega
    have:=Pj hT w he (β id) off ((ob.cs.drop off).take e.size) hlen (fun ha=>by rw[hlen]; exact h1 ha) (fun j u hj=>by
     rw[h.cell hob]
     grind)
    simp only[Instr.loadAt,Instr.sureAddr,Sem.run_bind,Sem.run_pure,Result.andThen_ok,this]
    grind [Zy,List.getElem?_eq_some_iff,List.drop_eq_getElem_cons]
   ·cases hv
  ·cases hv
 ·split at hv
  ·rename_i fs _ _ _ cs hs hx
   split at hv
   ·rename_i fd hf
    obtain⟨u,hu,rfl⟩:=JG.1 hv
    obtain⟨e,he,hc,hle,h1⟩:=cellsOf?_ok hT hu
    simp only[h.ev hx,Zc,Qcz]
    simp[Instr.field,Jh hT w hs,hf,asAgg,Qiw hT w he cs fd.offset hc]
   ·cases hv
  ·cases hv
 ·split at hv
  ·rename_i vs hx
   obtain⟨u,hu,rfl⟩:=JG.1 hv
   simp only[h.ev hx,Zc,Qcz]
   simp[Instr.extract,hu]
  ·cases hv
 ·split at hv
  ·rename_i _ _ _ _ n _ hs hx
   simp at hv; subst hv
   simp[resolve,invoke,builtin,Builtin.len_,Jh hT w hs,h.ev hx,Zc,Qcz,goInt]
  ·rename_i _ _ _ l hs hx
   simp at hv; subst hv
   simp[resolve,invoke,builtin,Builtin.len_,Jh hT w hs,h.ev hx,Zc,goInt,Q1n]
  ·rename_i n _ _ _ _ hs
   simp at hv; subst hv
   simp[resolve,invoke,builtin,Builtin.len_,Jh hT w hs,Zc,Qcz,goInt]
  ·cases hv
 ·split at hv
  ·rename_i k p _ q hx hy
   simp at hv; subst hv
   simp[resolve,invoke,builtin,Builtin.max_,Builtin.max2,h.ev hx,h.ev hy,Zc]
  ·cases hv
 ·split at hv
  ·rename_i k p _ q hx hy
   simp at hv; subst hv
   simp[resolve,invoke,builtin,Builtin.min_,Builtin.min2,h.ev hx,h.ev hy,Zc]
  ·cases hv
 ·split at hv
  ·rename_i t parts _ _ fs z _ _ hs
   split at hv
   ·rename_i ps vs hp hvs
    split at hv
    ·rename_i cs hc
     simp at hv; subst hv
     have hpl:=Qhc hT hp
     have hev:=T8 h hvs
     have hf:=Nm _ hc
     have hm:(Array.mk parts).map (fun(x:Nat×Operand)=>(x.1,a.eval x.2))=⟨vs⟩:=by rw[←hev]; simp
     have hpr:=run_places (P:=P) w fs ps hpl
     simp only[Instr.build,Sem.run_bind,Y6 hT w hs,Jh hT w hs,Result.andThen_ok,hm,Zc]
     simp_all [ZK,Sem.run_map,Result.andThen_ok,Instr.fill,Value.cells,Sem.run_pure]
    ·cases hv
   ·cases hv
  ·cases hv
 ·split at hv
  ·rename_i _ _ _ _ k _ _ _ _ n hs ht hx
   simp at hv; subst hv
   simp[convert,Jh hT w hs,Jh hT w ht,h.ev hx,Zc,Qcz,Conv.intToInt]
  ·cases hv
 ·cases hv
end
end Gd

/- Sequences of quiet operations, new objects and stores into them. -/
namespace Gd
open Go Go.RowKit
set_option linter.unusedVariables false
set_option linter.unusedSimpArgs false
def Bb(ops:Array Oper)(G:GL)(o:Oper):Option Bool :=
 match o.guard with
 | none=>some true
 | some (j,want)=>match ops[j]? with
  | some p=>match p.dst with
   | some t=>match Jo G t with
    | some (.v (.bool b))=>some (b==want)
    | some (.v (.tuple _))=>some false
    | _=>none
   | none=>none
  | none=>none
def Quf:GL→Nat→GL
 | [],_=>[]
 | (k,.v x)::l,d=>(k,.v x)::Quf l d
 | (k,.o id off)::l,d=>bif Nat.beq id d then Quf l d else(k,.o id off)::Quf l d
theorem Jh0{l:GL}{d:Nat}{p:Nat×AV}(h:p∈Quf l d):p∈l∧∀off,p.2≠.o d off:=by
 induction l with
 | nil=>simp[Quf]at h
 | cons q l ih =>
  obtain⟨k,x⟩:=q
  cases x with
  | v x =>
   simp only[Quf,QX]at h
   grind
  | o id off =>
   simp only[Quf]at h
   cases hb:Nat.beq id d with
   | true=>rw[hb]at h; grind
   | false =>
    rw[hb]at h
    simp only[cond_false,QX]at h
    rcases h with rfl | h
    ·grind [Nat.beq_refl]
    grind
def Qqn:List Value→Bool
 | []=>true
 | v::l=>v.oneCell'&&Qqn l
theorem Jdh{l:List Value}(h:Qqn l=true):∀v∈l,v.oneCell'=true:=by
 induction l with
 | nil=>simp
 | cons x l ih =>
  simp only[Qqn,QJ]at h
  intro v hv
  rcases QX.1 hv with rfl | hv
  ·exact h.1
  ·exact ih h.2 v hv
def stepL(T:Tab)(ops:Array Oper)(X:Cx)(o:Oper)(G:GL)(H:HL):Option (GL×HL) :=
 match Bb ops G o with
 | none=>none
 | some false=>match o.dst with
  | some d=>bif okD X d then some (He G d (.v undef),H)else none
  | none=>some (G,H)
 | some true=>match o.op with
  | .alloc t=>match o.dst,Qj T t with
   | some d,some e=>bif okD X d&&Qqm X then some (He (Quf G d) d (.o d 0),He H d ⟨Qv e.z,t⟩)else none
   | _,_=>none
  | .box t x=>match o.dst,gv G x with
   | some d,some (.v v)=>bif okD X d&&Qqm X then some (He (Quf G d) d (.o d 0),He H d ⟨Qv v,t⟩)else none
   | _,_=>none
  | .store t p x=>match o.dst,gv G p,gv G x with
   | none,some (.o id off),some (.v v)=>match Jo H id,Qj T t with
    | some ob,some e=>bif Nat.beq (Qv v).length e.size&&Nat.ble (off+e.size) ob.cs.length&&Qqn (Qv v)then
      some (G,He H id ⟨ob.cs.take off++Qv v++ob.cs.drop (off+(Qv v).length),ob.t⟩)else none
    | _,_=>none
   | _,_,_=>none
  | op=>match Q7j T G H op,o.dst with
   | some x,some d=>bif okD X d then some (He G d x,H)else none
   | some _,none=>some (G,H)
   | none,_=>none
section
variable {P:Program} {T:Tab} {β:Nat→Nat} {X:Cx} {G:GL} {D:List DF} {H:HL} {O:List TL} {a:Act} {w w':World}
theorem Zp(h:Sb β X G D H O a w){ops:Array Oper}{o:Oper}{g:Bool}(hg:Bb ops G o=some g):Region.wanted o (yielded ops a.tmps)=g:=by
 unfold Bb at hg
 unfold Region.wanted
 split at hg
 ·grind
 ·rename_i j want hn
  rw[hn]
  split at hg
  ·rename_i p hp
   split at hg
   ·rename_i t ht
    split at hg
    ·rename_i b hb
     simp at hg
     have:=h.tm _ (Dq hb)
     simp_all [Zc,yielded]
    ·rename_i hb
     simp at hg
     have:=h.tm _ (Dq hb)
     grind [Zc,yielded]
    ·cases hg
   ·cases hg
  ·cases hg
theorem Sb.alloc(h:Sb β X G D H O a w){d:Nat}(hdX:okD X d=true)(hpX:Qqm X=true)(cs:List Value)(t:TypeId) :
  Sb (fun i=>if i=d then w.heap.size else β i) X (He (Quf G d) d (.o d 0)) D (He H d ⟨cs,t⟩) O (a.put (some d) (.pointer (some ⟨w.heap.size,0,none⟩))) (w.alloc (.cells cs.toArray t)):=by
 have hsz:(w.alloc (.cells cs.toArray t)).heap.size=w.heap.size+1:=by simp
 have hH:∀p∈He H d (⟨cs,t⟩:HB),(p=(d,⟨cs,t⟩))∨(p∈H∧p.1≠d):=by
  intro p hp
  simp only[He,QX]at hp
  rcases hp with rfl | hp
  ·exact .inl rfl
  grind [Qiu]
 have hlt:∀p∈H,β p.1<w.heap.size:=fun p hp=>Vh (h.obj p hp).1
 have hd:=Qkz hdX
 have hevo:Evo (Jk X.ok X.w.heap.size β H O w) w (w.alloc (.cells cs.toArray t)):=Evo.of_blocks (by simp) fun b o hb=>Below.heap_alloc _ _ _ hb.2.1
 have hok:∀b o,Jk X.ok X.w.heap.size β H O w b o→Jk X.ok X.w.heap.size (fun i=>if i=d then w.heap.size else β i) (He H d ⟨cs,t⟩) O (w.alloc (.cells cs.toArray t)) b o:=by
  rintro b o ⟨h1,h2,h3,h4⟩
  refine⟨h1,by omega,?_,h4⟩
  grind
 refine { sz:=?_,df:=?_,fr:=?_,pn:=fun f hf=>by grind [Jhx],tm:=?_,bel:=?_,dat:=?_,obj:=?_,own:=?_,dHH:=?_,dHO:=?_,dOO:=h.dOO }
 ·simp[Act.put,h.sz]
 ·exact h.df
 ·intro k hk
  have hne:d≠k:=fun e=>Qpv hdX (e▸hk)
  simp[Act.put,hne,h.fr k hk]
 ·intro p hp
  simp only[He,QX]at hp
  rcases hp with rfl | hp
  ·simp[Act.put,h.sz,hd,den]
  ·obtain⟨hp,hne⟩:=Qiu hp
   obtain⟨hp,hno⟩:=Jh0 hp
   have hne':d≠p.1:=fun e=>hne e.symm
   have hden:den (fun i=>if i=d then w.heap.size else β i) p.2=den β p.2:=by
    cases hx:p.2 with
    | v x=>rfl
    | o id off =>
     have:id≠d:=by rintro rfl; exact hno off hx
     simp[den,this]
   rw[hden]
   simp[Act.put,hne',h.tm p hp]
 ·exact h.bel.trans (Vi.of _ ((Below.refl _ _).alloc h.bel.size _))
 ·exact(h.dat.evo hevo).weak hok
 ·intro p hp
  rcases hH p hp with rfl | ⟨hp,hne⟩
  ·simp only[if_true]
   exact⟨heap_alloc_new w _,.inl h.bel.size⟩
  ·simp only[if_neg hne]
   exact⟨by rw[Below.heap_alloc _ _ _ (hlt p hp),(h.obj p hp).1],(h.obj p hp).2⟩
 ·exact fun u hu=>⟨u.weak (u.keep (h.own u hu).1 (fun g hg=>Below.heap_alloc _ _ _ (h.olt hu hg)) hevo) hok,(h.own u hu).2⟩
 ·intro p hp q hq hne
  rcases hH p hp with rfl | ⟨hp,hnp⟩
  ·grind
  ·rcases hH q hq with rfl | ⟨hq,hnq⟩
   ·grind
   ·simp only[if_neg hnp,if_neg hnq]; exact h.dHH p hp q hq hne
 ·intro p hp u hu
  rcases hH p hp with rfl | ⟨hp,hnp⟩
  ·intro e
   have:=h.olt hu e
   simp at this
  ·simp only[if_neg hnp]; exact h.dHO p hp u hu
theorem Sb.store(h:Sb β X G D H O a w){id:Nat}{ob:HB}(ho:Jo H id=some ob)(cs:List Value)(hl:cs.length=ob.cs.length) :
  Sb β X G D (He H id ⟨cs,ob.t⟩) O a (w.setRow (β id) cs.toArray):=by
 have hm:=Dq ho
 have hob:=(h.obj _ hm).1
 simp only at hob
 have hH:∀p∈He H id (⟨cs,ob.t⟩:HB),(p=(id,⟨cs,ob.t⟩))∨(p∈H∧p.1≠id):=by
  intro p hp
  simp only[He,QX]at hp
  rcases hp with rfl | hp
  ·exact .inl rfl
  grind [Qiu]
 have hbg:X.mine (β id):=(h.obj _ hm).2
 have hevo:Evo (Jk X.ok X.w.heap.size β H O w) w (w.setRow (β id) cs.toArray):=Evo.of_blocks (by simp) fun b o hb=>setRow_other _ _ _ _ (fun e=>hb.2.2.1 _ hm e.symm)
 have hok:∀b o,Jk X.ok X.w.heap.size β H O w b o→Jk X.ok X.w.heap.size β (He H id ⟨cs,ob.t⟩) O (w.setRow (β id) cs.toArray) b o:=by
  rintro b o ⟨h1,h2,h3,h4⟩
  refine⟨h1,by simpa using h2,?_,h4⟩
  grind
 refine { sz:=h.sz,df:=h.df,fr:=h.fr,pn:=fun f hf p hp=>?_,tm:=h.tm,bel:=?_,dat:=?_,obj:=?_,own:=?_,dHH:=?_,dHO:=?_,dOO:=h.dOO }
 ·rcases hH p hp with rfl | ⟨hp,hne⟩
  ·exact h.pn f hf (id,ob) hm
  ·exact h.pn f hf p hp
 ·exact h.bel.trans ⟨rfl,rfl,rfl,by simp,fun k hk hn=>setRow_other _ _ _ _ (fun e=>hbg.elim (fun hg=>by omega) (fun hg=>hn (e▸hg)))⟩
 ·exact(h.dat.evo hevo).weak hok
 ·intro p hp
  rcases hH p hp with rfl | ⟨hp,hne⟩
  ·grind [setRow_heap]
  ·exact⟨by rw[setRow_other _ _ _ _ (h.dHH p hp _ hm hne)]; exact(h.obj p hp).1,(h.obj p hp).2⟩
 ·exact fun u hu=>⟨u.weak (u.keep (h.own u hu).1 (fun g hg=>setRow_other _ _ _ _ (fun e=>h.dHO _ hm u hu (e▸hg))) hevo) hok,(h.own u hu).2⟩
 ·intro p hp q hq hne
  rcases hH p hp with rfl | ⟨hp,hnp⟩
  ·rcases hH q hq with rfl | ⟨hq,hnq⟩
   ·grind
   ·exact h.dHH (id,ob) hm q hq hne
  ·rcases hH q hq with rfl | ⟨hq,hnq⟩
   ·exact h.dHH p hp (id,ob) hm hne
   ·exact h.dHH p hp q hq hne
 ·intro p hp u hu
  rcases hH p hp with rfl | ⟨hp,hnp⟩
  ·exact h.dHO (id,ob) hm u hu
  ·exact h.dHO p hp u hu
theorem Jw{ops:Array Oper}{Q:Exit→Act→World→Prop}{rest:List Oper}{o:Oper}(hw:Region.wanted o (yielded ops a.tmps)=true)
  (h:o.wp P a w (wpList P ops Q rest) Q):wpList P ops Q (o::rest) a w:=by
 simp_all [wpList,if_pos]
theorem Yj{o:Oper}{next:Act→World→Prop}{Q:Exit→Act→World→Prop}{v:Value}(hr:(execOp a.eval o).run P w=.ok (.value v) w')(h:next (a.put o.dst v) w') :
  o.wp P a w next Q:=by
 unfold Oper.wp; rw[hr]; exact h
theorem Q1o(hT:Q9 P T)(h:Sb β X G D H O a w){ops:Array Oper}{Q:Exit→Act→World→Prop}{o:Oper}{rest:List Oper}{G':GL}{H':HL}
  (hs:stepL T ops X o G H=some (G',H')) (hk:∀β' a' w',Sb β' X G' D H' O a' w'→wpList P ops Q rest a' w'):wpList P ops Q (o::rest) a w:=by
 unfold stepL at hs
 split at hs
 ·cases hs
 ·rename_i hg
  have hw:=Zp h hg
  unfold wpList
  rw[if_neg (by rw[hw]; simp)]
  split at hs
  ·rename_i d hd
   cases hb:okD X d with
   | false=>rw[hb]at hs; cases hs
   | true =>
    rw[hb]at hs
    simp at hs
    obtain⟨rfl,rfl⟩:=hs
    rw[hd]
    exact hk _ _ _ (h.put hb (.v undef))
  ·rename_i hd
   simp at hs
   obtain⟨rfl,rfl⟩:=hs
   rw[hd]
   exact hk _ _ _ h
 ·rename_i hg
  refine Jw (Zp h hg) ?_
  split at hs
  ·rename_i t hop
   split at hs
   ·rename_i d e hd he
    cases hb:(okD X d&&Qqm X)with
    | false=>rw[hb]at hs; cases hs
    | true =>
     rw[hb]at hs
     simp only[QJ]at hb
     simp only[cond_true,Option.some.injEq,Prod.mk.injEq]at hs
     obtain⟨rfl,rfl⟩:=hs
     have hrun:(execOp a.eval o).run P w=.ok (.value (.pointer (some ⟨w.heap.size,0,none⟩))) (w.alloc (.cells (Qv e.z).toArray t)):=by
      unfold execOp
      simp only[hop]
      simp[Instr.alloc,Y6 hT w he,newVar,newRow,Yq]
     refine Yj hrun ?_
     rw[hd]
     exact hk _ _ _ (h.alloc hb.1 hb.2 _ _)
   ·cases hs
  ·rename_i t x hop
   split at hs
   ·rename_i d v hd hv
    cases hb:(okD X d&&Qqm X)with
    | false=>rw[hb]at hs; cases hs
    | true =>
     rw[hb]at hs
     simp only[QJ]at hb
     simp only[cond_true,Option.some.injEq,Prod.mk.injEq]at hs
     obtain⟨rfl,rfl⟩:=hs
     have hrun:(execOp a.eval o).run P w=.ok (.value (.pointer (some ⟨w.heap.size,0,none⟩))) (w.alloc (.cells (Qv v).toArray t)):=by
      unfold execOp
      simp only[hop,h.ev hv,Zc]
      simp[Instr.box,newVar,newRow,Yq]
     refine Yj hrun ?_
     rw[hd]
     exact hk _ _ _ (h.alloc hb.1 hb.2 _ _)
   ·cases hs
  ·rename_i t p x hop
   split at hs
   ·rename_i id off v hd hp hx
    split at hs
    ·rename_i ob e ho he
     cases hb:(Nat.beq (Qv v).length e.size&&Nat.ble (off+e.size) ob.cs.length&&Qqn (Qv v))with
     | false=>rw[hb]at hs; cases hs
     | true =>
      rw[hb]at hs
      simp only[cond_true,Option.some.injEq,Prod.mk.injEq]at hs
      obtain⟨rfl,rfl⟩:=hs
      simp only[QJ]at hb
      obtain⟨⟨hb1,hb2⟩,hb3⟩:=hb
      have hl:=Nat.eq_of_beq_eq_true hb1
      have hle:=QW hb2
      have hob:=(h.obj _ (Dq ho)).1
      simp only at hob
      have hst:=run_storeCells_at P (β id) off ob.t (Qv v) 0 ob.cs.toArray w hob (by simp; omega) (Jdh hb3)
      simp only[XU,VZ]at hst
      have hsz:v.cells.size=e.size:=by rw[←hl,Yq]; simp
      have hrun:(execOp a.eval o).run P w=.ok .skip (w.setRow (β id) (ob.cs.take off++Qv v++ob.cs.drop (off+(Qv v).length)).toArray):=by
       unfold execOp
       simp only[hop,h.ev hp,h.ev hx,Zc,Qcz]
       rw[Yq]at hst
       simp[Instr.storeAt,Instr.sureAddr,storeVar,J0 hT w he,hsz,Yq,hst]
      unfold Oper.wp
      rw[hrun]
      show wpList P ops Q rest (a.put o.dst undef) _
      rw[hd]
      exact hk _ _ _ (h.store ho _ (by simp; omega))
    ·cases hs
   ·cases hs
  ·split at hs
   ·rename_i x d hx hd
    cases hb:okD X d with
    | false=>rw[hb]at hs; cases hs
    | true =>
     rw[hb]at hs
     simp only[cond_true,Option.some.injEq,Prod.mk.injEq]at hs
     obtain⟨rfl,rfl⟩:=hs
     refine Yj (Qvf hT h hx) ?_
     rw[hd]
     exact hk _ _ _ (h.put hb _)
   ·rename_i x hx hd
    simp at hs
    obtain⟨rfl,rfl⟩:=hs
    refine Yj (Qvf hT h hx) ?_
    rw[hd]
    exact hk _ _ _ h
   ·cases hs
end
end Gd

/- Steps of a walk that read data, call, append. -/
namespace Gd
open Go Go.RowKit
set_option linter.unusedVariables false
set_option linter.unusedSimpArgs false
section
variable {P:Program} {T:Tab} {β:Nat→Nat} {X:Cx} {G:GL} {D:List DF} {H:HL} {O:List TL} {a:Act} {w w':World}
theorem Sb.d(h:Sb β X G D H O a w)(i:Nat){d:DF}(hi:D[i]?=some d):d.p (Jk X.ok X.w.heap.size β H O w) w:=h.dat.get hi
theorem Sb.addD(h:Sb β X G D H O a w){d:DF}(hd:d.p (Jk X.ok X.w.heap.size β H O w) w):Sb β X G (d::D) H O a w:={ h with dat:=⟨hd,h.dat⟩ }
section steps
variable {ops:Array Oper} {Q:Exit→Act→World→Prop} {rest:List Oper} {o:Oper}
theorem Jh1{τ:Type}{r:RT τ}{ok:Ok}{w:World}{xs:List τ}{A:Option Addr}{m c:Nat}(h:Q1g r ok w xs (.slice A m c)){i:Nat}{x:τ}(hx:xs[i]?=some x) :
  ∃b o,A=some ⟨b,o,none⟩∧i<m∧Qky r ok w x (.pointer (some ⟨b,o+i*r.size,none⟩)):=by
 obtain⟨A',m',c',hv,hl,hc,hn⟩:=h
 injection hv with e1 e2 e3
 subst e1; subst e2; subst e3
 have hi:i<m:=by rw[←hl]; grind
 obtain⟨b,o,hA,hcs⟩:=hn (by omega)
 obtain⟨cs,hr,ha⟩:=hcs i x hx
 exact⟨b,o,hA,hi,b,_,cs,rfl,hr,ha⟩
def okx(ok:Ok)(w w':World):Ok:=fun b o=>ok b o∨(w.heap.size≤b∧b<w'.heap.size)
def Qyf(L:List Nat)(w:World)(R:Value→World→Prop):Ending→World→Prop:=fun e w'=>∃v,e=.returned v∧R v w'∧Vi L w.heap.size w w'
abbrev Ret(w:World)(R:Value→World→Prop):Ending→World→Prop:=Qyf [] w R
def Runs(P:Program)(f:FuncId):Prop:=∃fn,P.funcs[f]?=some fn∧fn.name ≠ "runtime.NumGoroutine" ∧ fn.body.isNone=false
theorem Qiz{f:FuncId}(hf:Runs P f)(args:Array Value)(w:World):(callFunc f args).run P w=.ok (.enter f args) w:=by
 obtain⟨fn,h1,h2,h3⟩:=hf
 have h2':(fn.name == "runtime.NumGoroutine")=false:=by simpa using h2
 obtain⟨c,hc⟩:∃c,fn.body=some c:=by
  cases hb:fn.body with
  | none=>rw[hb]at h3; cases h3
  | some c=>exact⟨c,rfl⟩
 simp_all [callFunc]
end steps
theorem Qi0{c:Code}{Q:Exit→Act→World→Prop}(I:Nat→Act→World→Prop)(m:Nat)(h0:I m a w)
  (round:∀m a w,I m a w→c.wp P (Exit.then (fun a' w'=>∃k,k<m∧I k a' w') Q) a w):(Code.loop c).wp P Q a w:=by
 intro b k cs
 have key:∀m a w,I m a w→∃e a' w',Q e a' w'∧Arrives P (lone (b.at a (.code c::.inLoop c::k)) cs w) b k cs e a' w':=by
  intro m
  induction m using Nat.strongRecOn with
  | _ m ih =>
   intro a w hI
   obtain⟨e,a₁,w₁,hq,harr⟩:=round m a w hI b (.inLoop c::k) cs
   cases e with
   | normal =>
    obtain⟨k',hlt,hI₁⟩:=hq
    obtain⟨e₂,a₂,w₂,hq₂,harr₂⟩:=ih k' hlt a₁ w₁ hI₁
    exact⟨e₂,a₂,w₂,hq₂,.of_steps (Steps.trans harr (.one step_inLoop)) harr₂⟩
   | exit id=>exact⟨_,a₁,w₁,hq,.pass (x:=.inLoop c) rfl (fun _ _=>.inl (by simp)) harr⟩
   | goto l=>exact⟨_,a₁,w₁,hq,.pass (x:=.inLoop c) rfl (fun _ _=>.inl (by simp)) harr⟩
   | ret=>exact⟨_,a₁,w₁,hq,.pass (x:=.inLoop c) rfl (fun _ _=>.inl (by simp)) harr⟩
   | panic ch=>exact⟨_,a₁,w₁,hq,.pass (x:=.inLoop c) rfl (fun _ _=>.inl (by simp)) harr⟩
   | outgrown=>exact⟨_,a₁,w₁,hq,.pass (x:=.inLoop c) rfl (fun _ _=>.inl (by simp)) harr⟩
 obtain⟨e,a',w',hq,harr⟩:=key m a w h0
 exact⟨e,a',w',hq,.of_steps (.one step_loop) harr⟩
def Q1p:List Value→Nat→GL
 | [],_=>[]
 | v::vs,i=>(i,.v v)::Q1p vs (i+1)
theorem Q1q{vs:List Value}{i:Nat}{p:Nat×AV}(h:p∈Q1p vs i):∃j v,p=(i+j,.v v)∧vs[j]?=some v:=by
 induction vs generalizing i with
 | nil=>simp[Q1p]at h
 | cons v vs ih =>
  simp only[Q1p,QX]at h
  rcases h with rfl | h
  ·exact⟨0,v,rfl,rfl⟩
  ·obtain⟨j,u,rfl,hu⟩:=ih h
   exact⟨j+1,u,by rw[Nat.add_assoc,ZR 1 j],hu⟩
end
end Gd
namespace Gd
open Go Go.RowKit
section
variable {P:Program} {T:Tab} {β:Nat→Nat} {X:Cx} {G:GL} {D:List DF} {H:HL} {O:List TL} {a:Act} {w w':World}
end
def idx{α:Type}(xs:List α)(i:Int):Option α:=if 0≤i then xs[i.toNat]? else none
theorem Gn{α:Type}{xs:List α}{i:Int}{x:α}(h:idx xs i=some x):0≤i∧xs[i.toNat]?=some x:=by
 grind [idx]
def Dr(s:Str)(i:Int):Option Int:=(idx s i).map fun c=>(c.toNat:Int)
theorem Jnn{s:Str}{i:Int}{x:Int}(h:Dr s i=some x):0≤i∧∃c,s[i.toNat]?=some c∧x=(c.toNat:Int):=by
 obtain⟨c,hc,rfl⟩:=JG.1 h
 exact⟨(Gn hc).1,c,(Gn hc).2,rfl⟩
theorem Yt{α β:Type}{o:Option α}{f:α→Option β}{r:β}(h:o.bind f=some r):∃x,o=some x∧f x=some r:=Option.bind_eq_some_iff.1 h
theorem Jp4{τ:Type}{r:RT τ}{ok:Ok}{w:World}:isV (rSl r) ok w [] (.slice none 0 0):=Xb.2 ⟨none,0,0,rfl,rfl,QG _,fun h=>absurd h (by omega)⟩
theorem Qk2{τ:Type}{r:RT τ}{ok:Ok}{w:World}{xs:List τ}{v:Value}(h:isV (rSl r) ok w xs v):∃A c,v=.slice A xs.length c∧isV (rSl r) ok w xs (.slice A xs.length c):=by
 obtain⟨A,n,c,rfl,hl,r⟩:=Xb.1 h
 grind
end Gd

/- More steps: elements, appends, new slices. -/
namespace Gd
open Go Go.RowKit
set_option linter.unusedVariables false
set_option linter.unusedSimpArgs false
section
variable {P:Program} {T:Tab} {β:Nat→Nat} {X:Cx} {G:GL} {D:List DF} {H:HL} {O:List TL} {a:Act} {w w':World}
variable {ops:Array Oper} {Q:Exit→Act→World→Prop} {rest:List Oper} {o:Oper}
end
end Gd
namespace Gd
open Go Go.RowKit
def R1{τ:Type}(r:RT τ)(ok:Ok)(w:World)(y:τ):Value→World→Prop:=fun v w'=>isV r (okx ok w w') w' y v
end Gd
namespace Gd
open Go Go.RowKit
section
variable {P:Program} {T:Tab} {β:Nat→Nat} {X:Cx} {G:GL} {D:List DF} {H:HL} {O:List TL} {a:Act} {w w':World}
variable {ops:Array Oper} {Q:Exit→Act→World→Prop} {rest:List Oper} {o:Oper}
end
end Gd

/- New slices, appends, parts of slices and strings. -/
namespace Gd
open Go Go.RowKit Go.Lib
set_option linter.unusedVariables false
set_option linter.unusedSimpArgs false
def Qug{τ:Type}(r:RT τ)(ok:Ok)(w:World):List τ→List Value→Prop
 | [],[]=>True
 | x::xs,v::vs=>isV r ok w x v∧Qug r ok w xs vs
 | _,_=>False
theorem Q7n{τ:Type}{r:RT τ}{ok:Ok}{w:World}{x:τ}{cs:List Value}(h:r.rep ok w x cs):Qv (r.val cs)=cs:=by
 unfold RT.val
 cases ha:r.agg with
 | true=>rfl
 | false =>
  have h1:=r.len h
  rw[r.one ha]at h1
  match cs,h1 with
  | [c],_ =>
   have:=r.flat h c (by simp)
   cases c<;>first | rfl | grind [Value.oneCell']
theorem Ds{τ:Type}{r:RT τ}{ok:Ok}{w:World}{x:τ}{v:Value}(h:isV r ok w x v):r.rep ok w x (Qv v):=by
 obtain⟨cs,hr,rfl⟩:=h
 rw[Q7n hr]; exact hr
theorem Q1r{τ:Type}{r:RT τ}{ok:Ok}{w:World}:∀{xs:List τ} {vs:List Value},Qug r ok w xs vs→(vs.flatMap Qv).length=xs.length*r.size∧vs.length=xs.length
 | [],[],_=>by simp
 | x::xs,v::vs,h=>by
  have h1:=r.len (Ds h.1)
  have h2:=Q1r h.2
  grind
theorem Jae{τ:Type}{r:RT τ}{ok:Ok}{w:World}:∀{xs:List τ} {vs:List Value},Qug r ok w xs vs→∀(i:Nat) (x:τ),xs[i]?=some x →
  ∃cs,r.rep ok w x cs∧∀(j:Nat) u,cs[j]?=some u→(vs.flatMap Qv)[i*r.size+j]?=some u
 | [],[],_,i,x,hx=>by simp at hx
 | y::ys,v::vs,h,i,x,hx=>by
  have h1:=r.len (Ds h.1)
  cases i with
  | zero =>
   simp at hx; subst hx
   refine⟨Qv v,Ds h.1,fun j u hu=>?_⟩
   have hj:=(List.getElem?_eq_some_iff.1 hu).1
   grind
  | succ i =>
   simp at hx
   obtain⟨cs,hr,hc⟩:=Jae h.2 i x hx
   grind
section
variable {P:Program} {T:Tab} {β:Nat→Nat} {X:Cx} {G:GL} {D:List DF} {H:HL} {O:List TL} {a:Act} {w w':World}
variable {ops:Array Oper} {Q:Exit→Act→World→Prop} {rest:List Oper}
theorem Sb.fresh(h:Sb β X G D H O a w){τ:Type}{r:RT τ}{xs:List τ}{cs:List Value}{tail:List Value}(e:TypeId)(c:Nat)
  (hc:∀(i:Nat) (x:τ),xs[i]?=some x→∃ds,r.rep (Jk X.ok X.w.heap.size β H O w) w x ds∧∀(j:Nat) u,ds[j]?=some u→cs[i*r.size+j]?=some u)
  (hl:xs.length≤c) (w':World) (hb:Below w.heap.size w w') {fr:Nat×Nat} (hw':w'.heap[w.heap.size]?=some (.cells (cs++tail).toArray e fr)) :
  isV (rSl r) (Jk X.ok X.w.heap.size β H O w') w' xs (.slice (some ⟨w.heap.size,0,none⟩) xs.length c):=by
 have hb':Evo (Jk X.ok X.w.heap.size β H O w) w w':=(Evo.of_below hb).mono fun _ _ hk=>hk.2.1
 have hlt:w.heap.size<w'.heap.size:=Vh hw'
 refine Xb.2 ⟨_,_,_,rfl,rfl,hl,fun _=>⟨_,0,rfl,fun i x hx=>?_⟩⟩
 obtain⟨ds,hr,hd⟩:=hc i x hx
 refine⟨ds,r.weak (r.evo hr hb') (Qk0 hb.size),fun j u hu=>⟨⟨.inr h.bel.size,hlt,fun p hp=>?_,fun t ht hcv=>?_⟩,?_⟩⟩
 ·exact Nat.ne_of_lt (h.hlt hp)
 ·exact Nat.lt_irrefl _ (h.olt ht (t.cb hcv))
 ·have:=hd j u hu
  have hj:=(List.getElem?_eq_some_iff.1 this).1
  simp only[World.cell?,hw',QY,KQ,JZ,if_false]
  rw[List.getElem?_toArray,JS hj]
  exact this
def Qc0(size:Nat):Nat→Option (Nat×Nat):=fun i=>some (i*size,size)
def Zz(z:List Value)(m:Nat):List Value:=(List.range m).map fun j=>z.getD (j % z.length) undef
theorem Qoi(hT:Q9 P T)(h:Sb β X G D H O a w){t:TypeId}{len:Nat}{parts:List (Nat×Operand)}{d:Nat}{ps:String}{af:Array Edge}{ty:TypeId}{gd:Option (Nat×Bool)}
  (hg:Bb ops G ⟨some d,.buildSlice t len ⟨parts⟩,ty,ps,af,gd⟩=some true) (hlt:okD X d=true)
  {τ:Type} {r:RT τ} {xs:List τ} {vs:List Value} {pvs:List (Nat×Value)} (hpv:evParts G parts=some pvs)
  {e:TypeId} {te ee:TE} (ht:Qj T t=some te) (htd:te.d=.slice e) (he:Qj T e=some ee) (hs:ee.size=r.size) (hxl:xs.length=len)
  (hsm:Nat.ble (len*ee.size) 16777216=true) (hps:Nat.ble 1 (len*ee.size)=true) (hz:Nat.beq (Qv ee.z).length ee.size=true)
  (hfill:Nl (Qc0 ee.size) (Zz (Qv ee.z) (len*ee.size)) pvs=some (vs.flatMap Qv))
  (hv:Qug r (Jk X.ok X.w.heap.size β H O w) w xs vs)
  (hk:∀A c a' w',isV (rSl r) (Jk X.ok X.w.heap.size β H O w') w' xs (.slice A xs.length c)→Sb β X (He G d (.v (.slice A xs.length c))) D H O a' w'→wpList P ops Q rest a' w') :
  wpList P ops Q (⟨some d,.buildSlice t len ⟨parts⟩,ty,ps,af,gd⟩::rest) a w:=by
 have hrun:(execOp a.eval ⟨some d,.buildSlice t len ⟨parts⟩,ty,ps,af,gd⟩).run P w=.ok (.value (.slice (some ⟨w.heap.size,0,none⟩) xs.length len)) (w.alloc (.cells (vs.flatMap Qv).toArray e)):=by
  have hev:=T8 h hpv
  have hm:(Array.mk parts).map (fun(x:Nat×Operand)=>(x.1,a.eval x.2))=⟨pvs⟩:=by rw[←hev]; simp
  have hun:(underlying t).run P w=.ok (.slice e) w:=by rw[Jh hT w ht,htd]
  have h16:¬ len*ee.size>16777216:=by have:=QW hsm; omega
  have hzl:=Nat.eq_of_beq_eq_true hz
  have hf:Instr.fill (fun i=>some (i*ee.size,ee.size)) (Zz (Qv ee.z) (len*ee.size)).toArray pvs=some (vs.flatMap Qv).toArray:=Nm _ hfill
  have hzz:(Array.range (len*ee.size)).map (fun x=>ee.z.cells[x % ee.z.cells.size]!)=(Zz (Qv ee.z) (len*ee.size)).toArray:=by
   rw[Yq]
   grind [Zz,Array.ext,Nat.eq_zero_or_pos,Yq,Nat.mod_lt]
  unfold execOp
  simp only[Instr.buildSlice,Sem.run_bind,hun,J0 hT w he,Result.andThen_ok,hm]
  have h0:¬ len*ee.size=0:=by have:=QW hps; omega
  have h00:len≠0:=fun e=>h0 (by rw[e,ZS])
  have h01:ee.size≠0:=fun e=>h0 (by rw[e,Nat.mul_zero])
  simp[h16,h00,h01,Y6 hT w he,hzz,hf,newRow,hxl]
  grind
 refine Jw (Zp h hg) (Yj hrun ?_)
 have hb:Below w.heap.size w (w.alloc (.cells (vs.flatMap Qv).toArray e)):=(Below.refl _ _).alloc (QG _) _
 refine hk _ len _ _ ?_ ((h.below hb).put hlt (.v _))
 exact h.fresh (tail:=[]) e len (Jae hv) (by omega) _ hb (by rw[QC]; exact heap_alloc_new w _)
def app{α:Type}(bytes:Nat)(xs ys:List α):Option (List α):=if(xs.length+ys.length)*bytes≤140737488355328 then some (xs++ys)else none
theorem Qk3{α:Type}{bytes:Nat}{xs ys zs:List α}(h:app bytes xs ys=some zs):(xs.length+ys.length)*bytes≤140737488355328∧zs=xs++ys:=by
 grind [app,Option.some.inj]
theorem Dt:maxLen=9223372036854775807:=rfl
theorem Qk4(t ty e:TypeId)(i:TypeInfo)(ht:P.underlying t=some (.slice e))(hi:P.info? e=some i)
  (g sLen sCap:Nat) (cur:Array Value) (fz:Nat×Nat) (hg:w.heap[g]?=some (.cells cur e fz)) (hfz:Qyd fz cur.size)
  (a:Addr) (m c:Nat) (news:List Value) (hl:news.length=m*i.size) (hnews:∀j u,news[j]?=some u→w.cell? (a.add j)=some u) (h1:∀u∈news,u.oneCell'=true)
  (hroom:sLen+m≤sCap) (hfit:sLen*i.size+news.length≤cur.size) :
  (Builtin.append_ #[t,t] ty #[.slice (some ⟨g,0,none⟩) sLen sCap,.slice (some a) m c]).run P w =
   .ok (.slice (some ⟨g,0,none⟩) (sLen+m) sCap) (w.setRow g (cur.toList.take (sLen*i.size)++news++cur.toList.drop (sLen*i.size+news.length)).toArray):=by
 have hf:=run_firstCells_some (P:=P) w i.size m a m c news hl hnews
 have hst:=Zx P g (sLen*i.size) e fz news 0 cur w hg hfz (by grind) h1
 simp only[XU]at hst
 simp[Builtin.append_,run_underlying ht,Go.sizeOf,typeInfo,hi,Builtin.lenOf,hroom,hf,Addr.add_lit,hst]
theorem Qc1(t u ty e:TypeId)(i:TypeInfo)(ht:P.underlying t=some (.slice e))(hu:P.underlying u=some .string)(hi:P.info? e=some i)(hs1:i.size=1)
  (g sLen sCap:Nat) (cur:Array Value) (fz:Nat×Nat) (hg:w.heap[g]?=some (.cells cur e fz)) (hfz:Qyd fz cur.size) (s:ByteArray)
  (hroom:sLen+s.size≤sCap) (hfit:sLen+s.size≤cur.size) :
  (Builtin.append_ #[t,u] ty #[.slice (some ⟨g,0,none⟩) sLen sCap,.string s]).run P w =
   .ok (.slice (some ⟨g,0,none⟩) (sLen+s.size) sCap) (w.setRow g (cur.toList.take sLen++strCells s++cur.toList.drop (sLen+s.size)).toArray):=by
 have hf:=run_firstCells_string (P:=P) w 1 s
 have hst:=Zx P g sLen e fz (strCells s) 0 cur w hg hfz (by simpa[strCells_length]using hfit) (strCells_oneCell s)
 simp only[XU,strCells_length]at hst
 simp[Builtin.append_,run_underlying ht,run_underlying hu,Go.sizeOf,typeInfo,hi,hs1,Builtin.lenOf,hroom,hf,Addr.add_lit,hst]
theorem Qc2{base:Nat}{t u ty e:TypeId}{i:TypeInfo}(ht:P.underlying t=some (.slice e))(hu:P.underlying u=some .string)(hi:P.info? e=some i)(hz:i.zero=some (.int .u8 0))
  (hsize:i.size=1) (hby:i.bytes=1) {v:Value} {n:Nat} {xs:List Value} (hown:w.ownsRowS base e 1 v n xs) (s:ByteArray) (hbytes:n+s.size≤140737488355328) (hbase:base≤w.heap.size) :
  ∃v' w',(Builtin.append_ #[t,u] ty #[v,.string s]).run P w=.ok v' w'∧w'.ownsRowS base e 1 v' (n+s.size) (xs++strCells s)∧w.grownBy w' v.ownBlock ∧
   ((v'.ownBlock=v.ownBlock)∨(v'.ownBlock=some w.heap.size∧Below w.heap.size w w')):=by
 have h63:n+s.size≤maxLen:=by rw[Dt]; omega
 have hxl:xs.length=n:=by simpa using hown.1
 have hlen:(xs++strCells s).length=(n+s.size)*1:=by rw[List.length_append,hxl,strCells_length,KW]
 have grown:∀(old:Nat),old<n+s.size →
   (w.drew.alloc (.cells (xs.toArray++(strCells s).toArray++Builtin.zeroCells (Value.int .u8 0).cells (grownCap w (n+s.size) old e - (n+s.size))) e)).ownsRowS base e 1
    (.slice (some ⟨w.heap.size,0,none⟩) (n+s.size) (grownCap w (n+s.size) old e)) (n+s.size) (xs++strCells s) ∧
   Below w.heap.size w (w.drew.alloc (.cells (xs.toArray++(strCells s).toArray++Builtin.zeroCells (Value.int .u8 0).cells (grownCap w (n+s.size) old e - (n+s.size))) e)):=by
  intro old ho
  have hge:=grownCap_ge w (n+s.size) old e
  have hcm:grownCap w (n+s.size) old e≤maxLen:=grownCap_le_maxLen w (n+s.size) old e h63
  refine⟨⟨hlen,.inr ⟨w.heap.size,_,_,(0,0),rfl,hbase,heap_alloc_new w.drew _,.inl rfl,hge,hcm,?_,?_⟩⟩,((Below.refl _ _).drew.alloc (QG _) _)⟩
  ·simp_all [Nat.le_of_eq,Eq.symm,KY,XJ,size_zeroCells,Value.cells]
  grind
 rcases hown.2 with⟨rfl,rfl⟩ | ⟨g,cap,cur,fz,rfl,hbg,hg,hfz,hnc,hcm,hcs,htake⟩
 ·have hx0:xs=[]:=QD hxl
  subst hx0
  by_cases hs0:s.size=0
  ·refine⟨.slice none 0 0,w,?_,⟨hlen,.inl ⟨rfl,by omega⟩⟩,⟨rfl,rfl,rfl,QG _,fun _ _ _=>rfl⟩,.inl rfl⟩
   simp[Builtin.append_,run_underlying ht,run_underlying hu,Go.sizeOf,typeInfo,hi,Builtin.lenOf,hs0,Builtin.firstCells]
  ·have hr:=run_append_nil_string (P:=P) w t u ty e i (.int .u8 0) ht hu hi hz s (by omega) (by omega) (by rw[hby]; omega)
   have e0:s.data.map (fun b=>Value.int .u8 (b.toNat:Int))=(strCells s).toArray:=by apply Array.ext'; simp[strCells]
   rw[e0]at hr
   obtain⟨g1,g2⟩:=grown 0 (by omega)
   simp only[QY,QV,Array.empty_append]at g1 g2 ⊢
   exact⟨_,_,hr,g1,⟨g2.os,g2.tape,g2.output,g2.size,fun b hb _=>g2.block b hb⟩,.inr ⟨rfl,g2⟩⟩
 ·by_cases hroom:n+s.size≤cap
  ·have hcs':cap≤cur.size:=by simpa using hcs
   have hr:=Qc1 (P:=P) (w:=w) t u ty e i ht hu hi hsize g n cap cur fz hg hfz s hroom (by omega)
   have hsz:(cur.toList.take n++strCells s++cur.toList.drop (n+s.size)).toArray.size=cur.size:=by
    grind
   refine⟨_,_,hr,⟨hlen,.inr ⟨g,cap,_,fz,rfl,hbg,setRow_heap w g cur _ e _ hg,by rw[hsz]; exact hfz,hroom,hcm,by rw[hsz]; exact hcs,?_⟩⟩,⟨rfl,rfl,rfl,by simp,fun b _ hb=>setRow_other w g b _ (fun e=>hb (by simp[Value.ownBlock,e]))⟩,.inl rfl⟩
   grind
  ·have holds:∀j u,xs[j]?=some u→w.cell? ((⟨g,0,none⟩:Addr).add j)=some u:=hown.cells (g:=g) rfl
   have hr:=run_append_grow_string (P:=P) w t u ty e i (.int .u8 0) ht hu hi hz ⟨g,0,none⟩ n cap xs (by rw[hsize]; simpa using hxl) holds s (by omega) (by omega) (by rw[hby]; exact growslice_fits (by omega) (by omega))
   obtain⟨g1,g2⟩:=grown cap (by omega)
   exact⟨_,_,hr,g1,⟨g2.os,g2.tape,g2.output,g2.size,fun b hb _=>g2.block b hb⟩,.inr ⟨rfl,g2⟩⟩
theorem Qhd(hT:Q9 P T){base:Nat}{t ty e:TypeId}{te ee:TE}(ht:Qj T t=some te)(htd:te.d=.slice e)(he:Qj T e=some ee)
  (hz:(Qv ee.z).length=ee.size) (hsz:0<ee.size) (hby:0<ee.bytes) {v:Value} {m:Nat} {xs:List Value} (hown:w.ownsRowS base e ee.size v m xs) (hbase:base≤w.heap.size)
  {A:Option Addr} {k c:Nat} {news:List Value} (hl:news.length=k*ee.size) (hA:A=none→k=0) (hnews:∀ad,A=some ad→∀j u,news[j]?=some u→w.cell? (ad.add j)=some u)
  (h1:∀u∈news,u.oneCell'=true) (hbytes:(m+k)*ee.bytes≤140737488355328) :
  ∃v' w',(Builtin.append_ ⟨[t,t]⟩ ty ⟨[v,.slice A k c]⟩).run P w=.ok v' w'∧w'.ownsRowS base e ee.size v' (m+k) (xs++news)∧w.grownBy w' v.ownBlock ∧
   ((v'.ownBlock=v.ownBlock)∨(v'.ownBlock=some w.heap.size∧Below w.heap.size w w')):=by
 have hu:P.underlying t=some (.slice e):=by rw[(Jv hT ht).2,htd]
 obtain⟨i,hi,hz',hs',hb'⟩:=Hg hT he
 have hzs:ee.z.cells.size=ee.size:=by rw[←hz,Yq]; simp
 have hmk:m+k≤140737488355328:=Nat.le_trans (ZF _ hby) hbytes
 rw[←hs']at hl hown hsz hzs ⊢
 rw[←hb']at hbytes
 have hlen:(xs++news).length=(m+k)*i.size:=by rw[List.length_append,hown.1,hl,Nat.add_mul]
 cases A with
 | none =>
  have hk:=hA rfl
  subst hk
  have hn:news=[]:=QD (by simpa using hl)
  subst hn
  refine⟨v,w,?_,by grind,⟨rfl,rfl,rfl,QG _,fun _ _ _=>rfl⟩,.inl rfl⟩
  rcases hown.2 with⟨rfl,rfl⟩ | ⟨g,cap,cur,fz,rfl,_,_,_,hnc,_⟩
  ·simp[Builtin.append_,run_underlying hu,Go.sizeOf,typeInfo,hi,Builtin.lenOf,Builtin.firstCells]
  ·simp[Builtin.append_,run_underlying hu,Go.sizeOf,typeInfo,hi,Builtin.lenOf,Builtin.firstCells,hnc,storeCells]
 | some ad =>
  have hn:=hnews ad rfl
  have grown:∀old:Nat,old<m+k →
    (w.drew.alloc (.cells (xs.toArray++news.toArray++Builtin.zeroCells ee.z.cells (grownCap w (m+k) old e - (m+k))) e)).ownsRowS base e i.size
     (.slice (some ⟨w.heap.size,0,none⟩) (m+k) (grownCap w (m+k) old e)) (m+k) (xs++news) ∧
    Below w.heap.size w (w.drew.alloc (.cells (xs.toArray++news.toArray++Builtin.zeroCells ee.z.cells (grownCap w (m+k) old e - (m+k))) e)):=by
   intro old ho
   have hge:=grownCap_ge w (m+k) old e
   have hcm:grownCap w (m+k) old e≤maxLen:=grownCap_le_maxLen w (m+k) old e (by rw[Dt]; omega)
   refine⟨⟨hlen,.inr ⟨w.heap.size,_,_,(0,0),rfl,hbase,heap_alloc_new w.drew _,.inl rfl,hge,hcm,?_,?_⟩⟩,((Below.refl _ _).drew.alloc (QG _) _)⟩
   ·refine Nat.le_of_eq (Eq.symm ?_)
    simp only[KY,XJ,size_zeroCells,hzs,hown.1,hl,←Nat.add_mul]
    congr 1; omega
   grind
  rcases hown.2 with⟨rfl,rfl⟩ | ⟨g,cap,cur,fz,rfl,hbg,hg,hfz,hnc,hcm,hcs,htake⟩
  ·have hx:xs=[]:=QD (by grind)
   subst hx
   by_cases hk0:k=0
   ·subst hk0
    have hn0:news=[]:=QD (by simpa using hl)
    subst hn0
    refine⟨.slice none 0 0,w,?_,World.ownsRowS_nil w base e i.size,⟨rfl,rfl,rfl,QG _,fun _ _ _=>rfl⟩,.inl rfl⟩
    simp[Builtin.append_,run_underlying hu,Go.sizeOf,typeInfo,hi,Builtin.lenOf,Builtin.firstCells,loadCells,loadCellsFrom]
   ·have hr:=run_append_nil (P:=P) w t ty e i ee.z hu hi hz' ad k c news hl hn (by omega) (by omega) (by have hb:=hbytes; grind)
    obtain⟨g1,g2⟩:=grown 0 (by omega)
    simp only[QY,QV,Array.empty_append]at g1 g2 ⊢
    exact⟨_,_,hr,g1,⟨g2.os,g2.tape,g2.output,g2.size,fun b hb _=>g2.block b hb⟩,.inr ⟨rfl,g2⟩⟩
  ·by_cases hroom:m+k≤cap
   ·have hfit:m*i.size+news.length≤cur.size:=by rw[hl,←Nat.add_mul]; exact Nat.le_trans (QT _ hroom) hcs
    have hr:=Qk4 (P:=P) (w:=w) t ty e i hu hi g m cap cur fz hg hfz ad k c news hl hn h1 hroom hfit
    have hszr:(cur.toList.take (m*i.size)++news++cur.toList.drop (m*i.size+news.length)).toArray.size=cur.size:=by
     grind
    refine⟨_,_,hr,⟨hlen,.inr ⟨g,cap,_,fz,rfl,hbg,setRow_heap w g cur _ e _ hg,by rw[hszr]; exact hfz,hroom,hcm,by rw[hszr]; exact hcs,?_⟩⟩,⟨rfl,rfl,rfl,by simp,fun b _ hb=>setRow_other w g b _ (fun e=>hb (by simp[Value.ownBlock,e]))⟩,.inl rfl⟩
    rw[htake,←hlen]
    grind
   ·have holds:∀j u,xs[j]?=some u→w.cell? ((⟨g,0,none⟩:Addr).add j)=some u:=hown.cells (g:=g) rfl
    have hr:=run_append_grow (P:=P) w t ty e i ee.z hu hi hz' ⟨g,0,none⟩ m cap xs hown.1 holds ad k c news hl hn (by omega) (by omega) (growslice_fits (by omega) hbytes)
    obtain⟨g1,g2⟩:=grown cap (by omega)
    exact⟨_,_,hr,g1,⟨g2.os,g2.tape,g2.output,g2.size,fun b hb _=>g2.block b hb⟩,.inr ⟨rfl,g2⟩⟩
end
end Gd

/- The step of append; parts of slices and strings; conversions. -/
namespace Gd
open Go Go.RowKit
set_option linter.unusedVariables false
set_option linter.unusedSimpArgs false
section
variable {P:Program} {T:Tab} {β:Nat→Nat} {X:Cx} {G:GL} {D:List DF} {H:HL} {O:List TL} {a:Act} {w w':World}
variable {ops:Array Oper} {Q:Exit→Act→World→Prop} {rest:List Oper}
theorem Q1s{τ:Type}{r:RT τ}{ok:Ok}{w:World}{b o:Nat}:∀(xs:List τ) (k:Nat),
  (∀i x,xs[i]?=some x→∃cs,r.rep ok w x cs∧Ik ok w b (o+(k+i)*r.size) cs) →
  ∃cs:List Value,cs.length=xs.length*r.size∧(∀c∈cs,c.oneCell'=true)∧(∀(j:Nat) u,cs[j]?=some u→ok b (o+k*r.size+j)∧w.cell? ⟨b,o+k*r.size+j,none⟩=some u) ∧
   ∀i x,xs[i]?=some x→∃ds,r.rep ok w x ds∧∀(j:Nat) u,ds[j]?=some u→cs[i*r.size+j]?=some u
 | [],k,_=>⟨[],by simp,by simp,by simp,by simp⟩
 | x::xs,k,h=>by
  obtain⟨d0,hr0,hc0⟩:=h 0 x rfl
  obtain⟨cs,hl,h1,hc,hi⟩:=Q1s xs (k+1) (fun i y hy=>by
   have:=h (i+1) y (by simpa using hy)
   rw[show k+(i+1)=k+1+i from by omega]at this
   exact this)
  have hl0:=r.len hr0
  refine⟨d0++cs,by grind,?_,?_,?_⟩
  ·intro c hcm
   rcases QZ.1 hcm with hcm | hcm
   ·exact r.flat hr0 c hcm
   ·exact h1 c hcm
  ·intro j u hu
   by_cases hj:j<d0.length
   ·rw[JS hj]at hu
    have:=hc0 j u hu
    grind
   grind
  ·intro i y hy
   cases i with
   | zero =>
    grind
   | succ i =>
    obtain⟨ds,hr,hd⟩:=hi i y (by simpa using hy)
    refine⟨ds,hr,fun j u hu=>?_⟩
    rw[JM (by rw[hl0,Nat.add_mul]; omega),hl0]
    grind
theorem Pk{τ:Type}{r:RT τ}{ok:Ok}{xs:List τ}{A:Option Addr}{m c:Nat}(h:Q1g r ok w xs (.slice A m c)) :
  ∃cs:List Value,cs.length=m*r.size∧xs.length=m∧m≤c∧(A=none→m=0)∧(∀c∈cs,c.oneCell'=true) ∧
   (0<m→∃b o,A=some ⟨b,o,none⟩∧∀(j:Nat) u,cs[j]?=some u→ok b (o+j)∧w.cell? ⟨b,o+j,none⟩=some u) ∧
   ∀i x,xs[i]?=some x→∃ds,r.rep ok w x ds∧∀(j:Nat) u,ds[j]?=some u→cs[i*r.size+j]?=some u:=by
 obtain⟨A',m',c',hv,hl,hc,hn⟩:=h
 injection hv with e1 e2 e3
 subst e1; subst e2; subst e3
 rcases Nat.eq_zero_or_pos m with h0 | h0
 ·have hx:xs=[]:=QD (by omega)
  simp_all
 ·obtain⟨b,o,rfl,hx⟩:=hn h0
  obtain⟨cs,hcl,h1,hcc,hi⟩:=Q1s (r:=r) (ok:=ok) (w:=w) (b:=b) (o:=o) xs 0 (fun i x hx'=>by rw[QY]; exact hx i x hx')
  grind
def Q1t{τ:Type}(r:RT τ)(ok:Ok)(w:World)(xs:List τ)(A:Option Addr)(m c:Nat):Prop :=
 ∃cs:List Value,cs.length=m*r.size∧xs.length=m∧m≤c∧(A=none→m=0)∧(∀c∈cs,c.oneCell'=true) ∧
  (0<m→∃b o,A=some ⟨b,o,none⟩∧∀(j:Nat) u,cs[j]?=some u→w.cell? ⟨b,o+j,none⟩=some u) ∧
  ∀i x,xs[i]?=some x→∃ds,r.rep ok w x ds∧∀(j:Nat) u,ds[j]?=some u→cs[i*r.size+j]?=some u
theorem Jaf{τ:Type}{r:RT τ}{ok:Ok}{xs:List τ}{A:Option Addr}{m c:Nat}(h:isV (rSl r) ok w xs (.slice A m c)):Q1t r ok w xs A m c:=by
 obtain⟨cs,h1,h2,h3,h4,h5,h6,h7⟩:=Pk (Xb.1 h)
 exact⟨cs,h1,h2,h3,h4,h5,fun hm=>let⟨b,o,e,hc⟩:=h6 hm; ⟨b,o,e,fun j u hu=>(hc j u hu).2⟩,h7⟩
theorem Q1t.weak{τ:Type}{r:RT τ}{ok ok':Ok}{xs:List τ}{A:Option Addr}{m c:Nat}(h:Q1t r ok w xs A m c)(hk:∀b o,ok b o→ok' b o):Q1t r ok' w xs A m c:=by
 obtain⟨cs,h1,h2,h3,h4,h5,h6,h7⟩:=h
 exact⟨cs,h1,h2,h3,h4,h5,h6,fun i x hx=>let⟨ds,q1,q2⟩:=h7 i x hx; ⟨ds,r.weak q1 hk,q2⟩⟩
theorem Bc(A:Option Addr)(n n' c c':Nat):(Value.slice A n c).ownBlock=(Value.slice A n' c').ownBlock:=by cases A<;>rfl
theorem E6(b o j:Nat):(⟨b,o,none⟩:Addr).add j=⟨b,o+j,none⟩:=Addr.add_lit b o j
theorem Q1u(hT:Q9 P T)(h:Sb β X G D H O a w)(kx ky:Nat)(O1 O2:List TL){t:TypeId}{s x:Operand}{d:Nat}{ps:String}{af:Array Edge}{ty:TypeId}{gd:Option (Nat×Bool)}
  (hg:Bb ops G ⟨some d,.call ⟨.builtin .append,⟨[s,x]⟩,⟨[t,t]⟩⟩,ty,ps,af,gd⟩=some true) (hlt:okD X d=true)
  {τ:Type} {r:RT τ} {xs ys zs:List τ} {A:Option Addr} {A2:Option Addr} {m c m2 c2:Nat} {e:TypeId} {te ee:TE} (ht:Qj T t=some te) (htd:te.d=.slice e) (he:Qj T e=some ee) (hs:ee.size=r.size)
  (hz:Nat.beq (Qv ee.z).length ee.size=true) (hsz:Nat.ble 1 ee.size=true) (hby:Nat.ble 1 ee.bytes=true)
  (hO:O=O1++tl (.slice A m c) e ee.size::O2) (hs1:gv G s=some (.v (.slice A m c))) (hx1:gv G x=some (.v (.slice A2 m2 c2)))
  (hDx:D[kx]?=some (DF.v (rSl r) xs (.slice A m c))) (hDy:isV (rSl r) (Jk X.ok X.w.heap.size β H O w) w ys (.slice A2 m2 c2)) (happ:app ee.bytes xs ys=some zs)
  (hk:∀A' c' a' w',isV (rSl r) (Jk X.ok X.w.heap.size β H (O1++tl (.slice A' zs.length c') e ee.size::O2) w') w' zs (.slice A' zs.length c') →
   Sb β X (He G d (.v (.slice A' zs.length c'))) D H (O1++tl (.slice A' zs.length c') e ee.size::O2) a' w'→wpList P ops Q rest a' w') :
  wpList P ops Q (⟨some d,.call ⟨.builtin .append,⟨[s,x]⟩,⟨[t,t]⟩⟩,ty,ps,af,gd⟩::rest) a w:=by
 subst hO
 obtain⟨hbytes,rfl⟩:=Qk3 happ
 have hmem:(tl (.slice A m c) e ee.size:TL)∈O1++tl (.slice A m c) e ee.size::O2:=by simp
 obtain⟨xs0,hown⟩:=(h.own _ hmem).1
 have hmine:∀g,(Value.slice A m c).ownBlock=some g→X.mine g:=(h.own _ hmem).2
 have hvx:=Xb.1 (h.d kx hDx)
 obtain⟨csx,hcx1,hxl,hmc,hA,hcx2,hcx3,hcx4⟩:=Pk hvx
 obtain⟨csy,hcy1,hyl,hmc2,hA2,hcy2,hcy3,hcy4⟩:=Pk (Xb.1 hDy)
 have hzl:=Nat.eq_of_beq_eq_true hz
 have hsz':0<ee.size:=QW hsz
 have hby':0<ee.bytes:=QW hby
 have hnews:∀ad,A2=some ad→∀j u,csy[j]?=some u→w.cell? (ad.add j)=some u:=by
  intro ad had j u hu
  have hj:=(List.getElem?_eq_some_iff.1 hu).1
  have hm2:0<m2:=by
   grind
  grind [E6]
 simp only[Wn]at hown
 obtain⟨v',w1,hrun,hown',hgrow,hblk⟩:=Qhd (P:=P) (w:=w) (ty:=ty) hT ht htd he hzl hsz' hby' hown (JQ _) (k:=m2) (c:=c2) (A:=A2) (news:=csy) (by rw[hs]; exact hcy1) hA2 hnews hcy2 (by rw[←hxl,←hyl]; exact hbytes)
 have hrun':(execOp a.eval ⟨some d,.call ⟨.builtin .append,⟨[s,x]⟩,⟨[t,t]⟩⟩,ty,ps,af,gd⟩).run P w=.ok (.value v') w1:=by
  unfold execOp
  have hm:(Array.mk [s,x]).map a.eval=⟨[.slice A m c,.slice A2 m2 c2]⟩:=by simp[h.ev hs1,h.ev hx1,Zc]
  simp_all [resolve,invoke,builtin]
 have hxs0:xs0.length=m*ee.size:=hown.1
 have hform:∃A' c',v'=.slice A' (m+m2) c'∧m+m2≤c'∧(0<m+m2→∃g,A'=some ⟨g,0,none⟩):=by
  rcases hown'.2 with⟨rfl,h0⟩ | ⟨g,cap,cur,fz,rfl,_,_,_,hle,_⟩
  ·grind
  grind
 obtain⟨A',c',rfl,hc',hA'⟩:=hform
 have hlen:(xs++ys).length=m+m2:=by rw[List.length_append,hxl,hyl]
 have hrow:∀g,(Value.slice A' (m+m2) c').ownBlock=some g→∀(j:Nat) u,(xs0++csy)[j]?=some u→w1.cell? ⟨g,j,none⟩=some u:=by
  intro g hg j u hu
  have:=hown'.cells hg j u hu
  rwa[E6,QY]at this
 have hrow0:∀g,(Value.slice A m c).ownBlock=some g→∀(j:Nat) u,xs0[j]?=some u→w.cell? ⟨g,j,none⟩=some u:=by
  intro g hg j u hu
  have:=hown.cells hg j u hu
  rwa[E6,QY]at this
 have hlt1:=hown'.lt
 have hlt0:=hown.lt
 have hmine1:∀g,(Value.slice A' (m+m2) c').ownBlock=some g→X.mine g:=by
  intro g hg
  rcases hblk with he1 | ⟨he1,_⟩
  ·grind
  ·rw[he1]at hg; injection hg with hg; subst hg; exact .inl h.bel.size
 have hevo:Evo (Jk X.ok X.w.heap.size β H (O1++tl (.slice A m c) e ee.size::O2) w) w w1:=by
  refine⟨hgrow.size,fun b o hk=>?_,fun b es cl hk hmp=>?_⟩
  rotate_left
  ·have hbg:some b≠(Value.slice A m c).ownBlock:=by
    intro he
    rcases hown.2 with⟨hv0,_⟩ | ⟨g,cap,cur,fz,hv0,_,hh,_⟩
    ·rw[hv0]at he; simp[Value.ownBlock]at he
    grind [Value.ownBlock,Option.some.injEq]
   rw[hgrow.block b hk.2.1 hbg]; exact hmp
  obtain⟨_,h2,_,h4⟩:=hk
  by_cases hbg:some b=(Value.slice A m c).ownBlock
  ·rcases hblk with he1 | ⟨he1,hbel⟩
   ·have hnc:=h4 _ hmem
    simp only[tl,Wn,not_and,Nat.not_le]at hnc
    have ho:o<m*ee.size:=hnc hbg.symm
    have hu:∃u,xs0[o]?=some u:=⟨xs0[o]'(by omega),List.getElem?_eq_getElem (by omega)⟩
    grind
   ·exact hbel.cell (p:=⟨b,o,none⟩) h2
  ·exact World.cell?_of_block (w:=w) (hgrow.block b h2 hbg)
 have hok:∀b o,Jk X.ok X.w.heap.size β H (O1++tl (.slice A m c) e ee.size::O2) w b o→Jk X.ok X.w.heap.size β H (O1++tl (.slice A' (xs++ys).length c') e ee.size::O2) w1 b o:=by
  rintro b o ⟨h1,h2,h3,h4⟩
  refine⟨h1,QP h2 hgrow.size,h3,fun t ht hcv=>?_⟩
  rcases QZ.1 ht with ht | ht
  ·grind
  ·rcases QX.1 ht with rfl | ht
   ·obtain⟨c1,c2⟩:=hcv
    simp only[Wn,hlen]at c1 c2
    rcases hblk with he1 | ⟨he1,_⟩
    ·have hnc:=h4 _ hmem
     simp only[tl,Wn,not_and,Nat.not_le]at hnc
     have:=hnc (by rw[←he1]; exact c1)
     rw[Nat.add_mul]at c2
     omega
    grind
   grind
 have hothers:∀t∈O1++O2,∀g,t.blks g→some g≠(Value.slice A m c).ownBlock∧g<w.heap.size:=by
  intro t ht g hg
  refine⟨fun e1=>?_,h.olt (by rcases QZ.1 ht with ht | ht<;>simp[ht]) hg⟩
  have hp:=QE.1 h.dOO
  rcases QZ.1 ht with ht | ht
  ·exact hp.2.2 t ht _ (.head _) g hg e1.symm
  ·have hp2:=List.pairwise_cons.1 hp.2.1
   exact hp2.1 t ht g e1.symm hg
 have hSb:Sb β X G D H (O1++tl (.slice A' (xs++ys).length c') e ee.size::O2) a w1:=by
  refine { sz:=h.sz,df:=h.df,fr:=h.fr,pn:=h.pn,tm:=h.tm,bel:=?_,dat:=(h.dat.evo hevo).weak hok,obj:=?_,own:=?_,dHH:=h.dHH,dHO:=?_,dOO:=?_ }
  ·exact h.bel.trans ⟨hgrow.os,hgrow.tape,hgrow.output,hgrow.size,fun k hk hn=>hgrow.block k (QP hk h.bel.size) (fun e1=>by exact(hmine k e1.symm).elim (fun h=>by omega) hn)⟩
  ·intro p hp
   have hpb:=Vh (h.obj p hp).1
   refine⟨?_,(h.obj p hp).2⟩
   rw[hgrow.block _ hpb (fun e1=>h.dHO p hp _ hmem e1.symm)]
   exact(h.obj p hp).1
  ·intro t ht
   rcases QZ.1 ht with ht' | ht'
   ·exact⟨t.weak (t.keep (h.own t (by simp[ht'])).1 (fun g hg=>hgrow.block g (hothers t (by simp[ht']) g hg).2 (hothers t (by simp[ht']) g hg).1) hevo) hok,(h.own t (by simp[ht'])).2⟩
   ·rcases QX.1 ht' with rfl | ht'
    ·refine⟨⟨xs0++csy,?_⟩,fun g hg=>hmine1 g ((Bc A' (m+m2) (xs++ys).length c' c').trans hg)⟩
     grind [Wn]
    ·exact⟨t.weak (t.keep (h.own t (by simp[ht'])).1 (fun g hg=>hgrow.block g (hothers t (by simp[ht']) g hg).2 (hothers t (by simp[ht']) g hg).1) hevo) hok,(h.own t (by simp[ht'])).2⟩
  ·intro p hp t ht
   have hpb:=Vh (h.obj p hp).1
   rcases QZ.1 ht with ht' | ht'
   ·exact h.dHO p hp t (by simp[ht'])
   ·rcases QX.1 ht' with rfl | ht'
    ·intro e1
     have e2:(Value.slice A' (m+m2) c').ownBlock=some (β p.1):=(Bc A' (m+m2) (xs++ys).length c' c').trans e1
     rcases hblk with he1 | ⟨he1,_⟩
     ·rw[he1]at e2; exact h.dHO p hp _ hmem e2
     grind
    ·exact h.dHO p hp t (by simp[ht'])
  ·have hp:=QE.1 h.dOO
   have hp2:=List.pairwise_cons.1 hp.2.1
   have hnew:∀t∈O1++O2,∀g,t.blks g→(Value.slice A' (m+m2) c').ownBlock≠some g:=by
    grind
   refine QE.2 ⟨hp.1,List.pairwise_cons.2 ⟨fun t ht g hg hg2=>hnew t (by simp[ht]) g hg2 ((Bc A' (m+m2) (xs++ys).length c' c').trans hg),hp2.2⟩,?_⟩
   intro t ht u hu g hg
   rcases QX.1 hu with rfl | hu
   ·exact fun hg2=>hnew t (by simp[ht]) g hg ((Bc A' (m+m2) (xs++ys).length c' c').trans hg2)
   grind
 have hfact:isV (rSl r) (Jk X.ok X.w.heap.size β H (O1++tl (.slice A' (xs++ys).length c') e ee.size::O2) w1) w1 (xs++ys) (.slice A' (xs++ys).length c'):=by
  refine Xb.2 ⟨_,_,_,rfl,rfl,by omega,fun hpos=>?_⟩
  obtain⟨g,rfl⟩:=hA' (by omega)
  refine⟨g,0,rfl,fun i x hx=>?_⟩
  have hgb:(Value.slice (some ⟨g,0,none⟩) (m+m2) c').ownBlock=some g:=rfl
  have hbase:=hlt1 g hgb
  have hcells:∀(j:Nat) u,(xs0++csy)[j]?=some u→j<(m+m2)*ee.size→Jk X.ok X.w.heap.size β H (O1++tl (.slice (some ⟨g,0,none⟩) (xs++ys).length c') e ee.size::O2) w1 g j∧w1.cell? ⟨g,j,none⟩=some u:=by
   intro j u hu hj
   refine⟨⟨X.mine_ok (hmine1 g hgb) j,hbase.2,fun p hp e1=>?_,fun t ht hcv=>?_⟩,hrow g hgb j u hu⟩
   ·have hpb:=Vh (h.obj p hp).1
    rcases hblk with he1 | ⟨he1,_⟩
    ·exact h.dHO p hp _ hmem (by show(Value.slice A m c).ownBlock=some (β p.1); rw[←he1,e1]; exact hgb)
    grind
   ·rcases QZ.1 ht with ht' | ht'
    ·have:=hothers t (by simp[ht']) g (t.cb hcv)
     grind
    ·rcases QX.1 ht' with rfl | ht'
     ·have c2:=hcv.2
      simp only[Wn,hlen]at c2
      omega
     ·have:=hothers t (by simp[ht']) g (t.cb hcv)
      grind
  have hconv:∀{x:τ} {ds:List Value},r.rep (Jk X.ok X.w.heap.size β H (O1++tl (.slice A m c) e ee.size::O2) w) w x ds →
    r.rep (Jk X.ok X.w.heap.size β H (O1++tl (.slice (some ⟨g,0,none⟩) (xs++ys).length c') e ee.size::O2) w1) w1 x ds:=fun hr=>r.weak (r.evo hr hevo) hok
  by_cases hi:i<m
  ·rw[JS (by omega)]at hx
   obtain⟨ds,hr,hd⟩:=hcx4 i x hx
   refine⟨ds,hconv hr,fun j u hu=>?_⟩
   have hj:j<r.size:=by have:=(List.getElem?_eq_some_iff.1 hu).1; rw[r.len hr]at this; exact this
   have hcu:=hd j u hu
   have hidx:i*r.size+j<m*r.size:=by
    have:(i+1)*r.size≤m*r.size:=QT _ hi
    rw[Nat.add_mul]at this; omega
   obtain⟨b',o',hA0,hc0⟩:=hcx3 (by omega)
   have hown0:b'=g∨True:=.inr trivial
   have hxs:xs0[i*r.size+j]?=some u:=by
    rcases hown.2 with⟨hv0,h0⟩ | ⟨g0,cap,cur,fz0,hv0,_,_,_⟩
    ·omega
    ·injection hv0 with hv0
     rw[hA0]at hv0
     injection hv0 with hv0
     injection hv0 with hb0 ho0
     subst hb0; subst ho0
     have h1:=(hc0 _ u hcu).2
     have h2:=hrow0 b' (by rw[hA0]; rfl) (i*r.size+j) (xs0[i*r.size+j]'(by rw[hxs0,hs]; exact hidx)) (List.getElem?_eq_getElem _)
     rw[QY]at h1
     rw[h1]at h2
     rw[List.getElem?_eq_getElem (by rw[hxs0,hs]; exact hidx)]
     exact h2.symm
   have:=hcells (i*r.size+j) u (by rw[JS (by rw[hxs0,hs]; exact hidx)]; exact hxs) (by rw[hs,Nat.add_mul]; omega)
   rw[QY]
   exact this
  ·rw[JM (by omega),hxl]at hx
   obtain⟨ds,hr,hd⟩:=hcy4 (i - m) x hx
   refine⟨ds,hconv hr,fun j u hu=>?_⟩
   have hj:j<r.size:=by have:=(List.getElem?_eq_some_iff.1 hu).1; rw[r.len hr]at this; exact this
   have hcu:=hd j u hu
   have him:i - m<m2:=by
    have:=(List.getElem?_eq_some_iff.1 hx).1
    omega
   have hidx:(i - m)*r.size+j<m2*r.size:=by
    have:(i - m+1)*r.size≤m2*r.size:=QT _ him
    rw[Nat.add_mul]at this; omega
   have e1:i*r.size+j=m*r.size+((i - m)*r.size+j):=by
    rw[←Nat.add_assoc,←Nat.add_mul]; congr 2; omega
   have:=hcells (i*r.size+j) u (by
    rw[JM (by rw[hxs0,hs,e1]; omega),hxs0,hs,e1,XH]
    exact hcu) (by rw[hs,Nat.add_mul,e1]; omega)
   rw[QY]
   exact this
 refine Jw (Zp h hg) (Yj hrun' ?_)
 have hput:=hSb.put hlt (.v (.slice A' (xs++ys).length c'))
 have:=hk A' c' _ w1 hfact hput
 grind [Zc]
end
end Gd

/- Parts of slices and strings; conversions; text put together. -/
namespace Gd
open Go Go.RowKit
set_option linter.unusedVariables false
set_option linter.unusedSimpArgs false
def slc{α:Type}(xs:List α)(lo hi:Int):Option (List α):=if 0≤lo∧lo≤hi∧hi≤(xs.length:Int)then some ((xs.drop lo.toNat).take (hi - lo).toNat)else none
theorem slc_ok{α:Type}{xs ys:List α}{lo hi:Int}(h:slc xs lo hi=some ys):0≤lo∧lo≤hi∧hi≤(xs.length:Int)∧ys=(xs.drop lo.toNat).take (hi - lo).toNat∧ys.length=(hi - lo).toNat:=by
 grind [slc,Option.some.inj]
def Jno(a b:Str):Option Str:=if a.length+b.length≤9223372036854775807 then some (a++b)else none
def Quh(xs:List Int):Str:=xs.map fun i=>UInt8.ofNat i.toNat
def Km(s:Str):List Int:=s.map fun c=>(c.toNat:Int)
section
variable {P:Program} {T:Tab} {β:Nat→Nat} {X:Cx} {G:GL} {D:List DF} {H:HL} {O:List TL} {a:Act} {w w':World}
variable {ops:Array Oper} {Q:Exit→Act→World→Prop} {rest:List Oper}
theorem Qbu{k:IntKind}{i:Int}{y:Nat}{code:BoundsCode}(h0:0≤i)(h1:i≤y):(Instr.sliceBound (.int k i) y code).run P w=.ok i.toNat w:=by
 simp[Instr.sliceBound,asIntOf,h0,h1]
theorem Qqo(ns:List Int)(s:Str):ns.foldl (fun r n=>r.push (UInt8.ofNat n.toNat)) (ByteArray.mk s.toArray)=ByteArray.mk (s++Quh ns).toArray:=by
 induction ns generalizing s with
 | nil=>simp[Quh]
 | cons x ns ih =>
  grind [UInt8.ofNat,ByteArray.ext,ByteArray.push,Quh]
end
end Gd
