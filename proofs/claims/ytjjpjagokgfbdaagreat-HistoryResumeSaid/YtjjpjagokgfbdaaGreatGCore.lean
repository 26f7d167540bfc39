/- Decompilation core: typed readings of values, the state of a walk, and its frame. -/
import Derived.WalkKit
import Derived.KernelRfl
import Derived.Lib.AppendStr
import Derived.Lib.ConvBytes
import Derived.Orders
namespace Go
set_option linter.defProp false
def QQ := @Bool.and_eq_true
def QJ := @Nat.eq_of_beq_eq_true
def QX := @List.mem_cons
def QZ := @List.mem_append_left
def QK := @List.getElem?_eq_some_iff
def QV := @List.mem_append_right
def QW := @List.mem_append
def QY := @List.mem_map
def QU := @List.getElem?_eq_getElem
def QG := @List.pairwise_cons
def QH := @List.append_assoc
def QE := @Nat.zero_add
def QF := @Nat.le_of_ble_eq_true
def QA := @List.cons_append
def QB := @Option.bind_some
def QC := @List.nil_append
def QD := @Nat.le_refl
def QI := @List.length_append
def QM := @List.pairwise_append
def QN := @Nat.le_trans
def QO := @List.length_take
def QP := @Nat.add_mul
def QR := @List.append_nil
def QT := @Int.tdiv_eq_ediv_of_nonneg
def JQ := @List.getElem?_take_of_lt
def JJ := @List.mem_filter
def JX := @List.eq_nil_of_length_eq_zero
def JZ := @List.getElem?_drop
def JK := @List.map_append
def JV := @List.length_drop
def JW := @List.map_cons
def JY := @Nat.beq_refl
def JU := @Nat.lt_of_lt_of_le
def JG := @Nat.mul_le_mul_right
def JH := @List.take_append_drop
def JE := @List.getElem?_append_right
def JF := @List.getElem?_append_left
def JA := @List.nodup_cons
def JB := @Nat.zero_le
def JC := @Array.getD_eq_getD_getElem?
def JD := @List.getElem?_take
def JI := @List.length_cons
def JL := @Nat.lt_or_ge
def JM := @List.mem_of_getElem?
def JN := @List.all_eq_true
def JO := @List.length_nil
def JP := @List.take_of_length_le
def JR := @List.mem_singleton
def JS := @Bool.or_eq_true
def JT := @List.mem_range
def XQ := @Bool.false_eq_true
def XJ := @Nat.eq_zero_or_pos
def XX := @List.filterMap_append
def XZ := @List.length_eq_zero_iff
def XK := @List.perm_middle
def XV := @List.filter_cons
def XW := @List.size_toArray
def XY := @List.drop_eq_getElem_cons
def XU := @List.pairwise_singleton
def XG := @Option.map_some
def XH := @List.filterMap_cons
def XE := @List.flatMap_cons
def XF := @Bool.not_eq_true'
def XA := @List.perm_append_comm
def XB := @Nat.zero_mul
def XC := @List.getElem?_of_mem
def XD := @List.not_mem_nil
def XI := @Array.getElem?_eq_none
def XL := @List.drop_drop
def XM := @Array.getElem?_append_left
def XN := @List.drop_of_length_le
def XO := @List.pairwise_map
def XP := @Int.tmod_eq_emod_of_nonneg
def XR := @Array.length_toList
def XT := @Nat.ble_eq_true_of_le
def ZQ := @Array.getElem?_modify
def ZJ := @List.length_filter_le
def ZX := @List.nodup_append
def ZZ := @List.take_left
def ZK := @List.getElem?_toArray
def ZV := @List.getElem?_eq_none
def ZW := @Array.getElem?_eq_getElem
def ZY := @Nat.min_eq_left
def ZU := @List.ext_getElem?
def ZG := @Nat.add_assoc
def ZH := @Option.bind_eq_some_iff
def ZE := @Nat.add_sub_cancel_left
def ZF := @Option.getD_some
def ZA := @List.take_zero
def ZB := @Nat.succ_le_succ
def ZC := @List.take_append_of_le_length
def ZD := @Nat.add_zero
def ZI := @List.zip_cons_cons
def ZL := @Array.getElem?_setIfInBounds
def ZM := @Array.getElem?_toList
def ZN := @Array.getElem?_eq_some_iff
def ZO := @Bool.or_eq_false_iff
def ZP := @List.take_take
def ZR := @Nat.le_max_right
def ZS := @List.drop_length
def ZT := @List.all_cons
def KQ := @Array.getElem?_replicate
def KJ := @List.length_map
def KX := @Nat.le_mul_of_pos_right
def KZ := @Option.map_eq_some_iff
def KK := @Nat.le_of_eq
def KV := @Array.size_append
def KW := @Array.all_eq_true_iff_forall_mem
def KY := @List.drop_zero
def KU := @List.drop_left
def KG := @List.drop_take
def KH := @List.length_replicate
def KE := @List.take_append
def KF := @List.getElem_map
def KA := @Int.mul_le_mul_of_nonneg_right
def KB := @List.range'_succ
def KC := @Bool.false_or
def KD := @Nat.mul_one
def KI := @List.mem_cons_of_mem
def KL := @Int.le_refl
def KM := @Nat.le_max_left
def KN := @Option.map_none
def KP := @Array.toList_append
def KR := @List.getElem_of_mem
def KS := @Nat.add_comm
def KT := @Nat.mod_lt
def VQ := @List.getD_eq_getElem?_getD
def VJ := @Nat.max_le
def VX := @Array.mapM_eq_mapM_toList
def VZ := @List.filterMap_eq_nil_iff
def VK := @List.pairwise_iff_getElem
def VV := @List.mem_or_eq_of_mem_set
def VW := @List.getElem?_map
def VY := @Int.toNat_natCast
def VU := @Nat.le_succ
def VG := @Bool.not_true
def VH := @Nat.lt_succ_self
def VE := @List.getElem?_cons_zero
def VF := @List.take_length
def VA := @List.getElem_mem
def VB := @List.map_nil
def VC := @List.drop_eq_nil_of_le
def VD := @List.length_eq_one_iff
def VI := @Nat.max_zero
def VL := @Bool.eq_iff_iff
def VM := @Bool.and_eq_false_iff
def VN := @List.eraseIdx_sublist
def VO := @Array.getElem?_mapIdx
def VP := @Array.toArray_toList
def VR := @List.mapM_cons
def VS := @Array.mem_toList_iff
def VT := @Array.size_replicate
def WQ := @Nat.min_def
def WJ := @List.mem_of_mem_take
def WX := @Array.getElem_toList
def WZ := @List.getElem?_modify
def WK := @List.flatten_append
def WV := @List.map_congr_left
def WW := @List.filterMap_some
def WY := @Nat.ne_of_lt
def WU := @Int.le_trans
def WG := @Nat.zero_max
def WH := @Nat.one_mul
def Qwo(fz:Nat×Nat)(n:Nat):Prop:=fz=(0,0)∨fz=(n,n+1)
def World.ownsRowS(w:World)(base:Nat)(e:TypeId)(size:Nat)(v:Value)(n:Nat)(xs:List Value):Prop :=
  xs.length=n*size ∧
  ((v=.slice none 0 0∧n=0) ∨
   ∃g cap cur fz,v=.slice (some ⟨g,0,none⟩) n cap∧base≤g∧w.heap[g]?=some (.cells cur e fz)∧Qwo fz cur.size∧n≤cap∧cap≤maxLen∧cap*size≤cur.size∧cur.toList.take (n*size)=xs)
section
variable {w:World} {base:Nat} {e:TypeId} {size:Nat} {v:Value} {n:Nat} {xs:List Value}
theorem World.ownsRowS_nil(w:World)(base:Nat)(e:TypeId)(size:Nat):w.ownsRowS base e size (.slice none 0 0) 0 []:=⟨by simp,.inl ⟨rfl,rfl⟩⟩
theorem World.ownsRowS.lt(h:w.ownsRowS base e size v n xs):∀k,v.ownBlock=some k→base≤k∧k<w.heap.size:=by
 intro k hk
 rcases h.2 with⟨rfl,_⟩ | ⟨g,cap,cur,fz,rfl,hb,hg,_⟩
 ·simp[Value.ownBlock]at hk
 ·simp[Value.ownBlock]at hk
  subst hk
  exact⟨hb,(ZN.1 hg).1⟩
theorem World.ownsRowS.cells(h:w.ownsRowS base e size v n xs){g:Nat}(hg:v.ownBlock=some g):∀j u,xs[j]?=some u→w.cell? ((⟨g,0,none⟩:Addr).add j)=some u:=by
 intro j u hu
 rcases h.2 with⟨rfl,_⟩ | ⟨g',cap,cur,fz,rfl,_,bf,_,_,_,_,uq⟩
 ·simp[Value.ownBlock]at hg
 ·simp[Value.ownBlock]at hg
  subst hg
  have xk:(⟨g',0,none⟩:Addr).add j=⟨g',j,none⟩:=by unfold Addr.add; split<;>simp_all
  rw[xk,cell_of_row w g' j cur e fz bf]
  rw[←uq,JD]at hu
  split at hu
  ·simpa using hu
  ·cases hu
end
theorem Uz(P:Program)(g o:Nat)(t:TypeId)(fz:Nat×Nat):∀(vs:List Value) (i:Nat) (cur:Array Value) (w:World),w.heap[g]?=some (.cells cur t fz)→Qwo fz cur.size→o+i+vs.length≤cur.size→(∀v∈vs,v.oneCell'=true) →
  (storeCells ⟨g,o,none⟩ vs i).run P w=.ok () (w.setRow g (cur.toList.take (o+i)++vs++cur.toList.drop (o+i+vs.length)).toArray)
 | [],i,cur,w,hg,_,_,_=>by
  simp only[storeCells,QR,JO,ZD,JH,VP]
  rw[setRow_self w g cur t fz hg]
  rfl
 | v::rest,i,cur,w,hg,yk,hl,h1=>by
  have hi:o+i<cur.size:=by simp at hl; omega
  have xk:(⟨g,o,none⟩:Addr).add i=⟨g,o+i,none⟩:=by unfold Addr.add; split<;>simp_all
  have yz:w.cell? ⟨g,o+i,none⟩=some cur[o+i]:=by simp[World.cell?,hg,hi]
  have hfro:w.frozen? ⟨g,o+i,none⟩=false:=by
   rcases yk with rfl | rfl
   ·simp[World.frozen?,hg]
   ·simp only[World.frozen?,hg,VM,decide_eq_false_iff_not]
    left
    omega
  have zg:(store ((⟨g,o,none⟩:Addr).add i) v).run P w=.ok () (w.setRow g (cur.setIfInBounds (o+i) v)):=by
   rw[xk,run_store P w _ v _ (h1 v (by simp)),yz]
   simp[hfro,setCell_eq_setRow w g (o+i) cur t fz v hg]
  have ih:=Uz P g o t fz rest (i+1) (cur.setIfInBounds (o+i) v) (w.setRow g (cur.setIfInBounds (o+i) v)) (setRow_heap w g cur _ t _ hg) (by simpa using yk) (by simp at hl ⊢; omega) (fun x hx=>h1 x (by simp[hx]))
  simp only[storeCells,Sem.run_bind,zg,Result.andThen_ok,ih,setRow_setRow]
  congr 3
  have e:=list_seg_step cur.toList (o+i) v rest (by simp at hl ⊢; omega)
  simpa[Array.toList_setIfInBounds,ZG]using e
end Go
namespace Gd
open Go Go.RowKit
set_option linter.unusedVariables false
set_option linter.unusedSimpArgs false
abbrev Ok:=Nat→Nat→Prop
structure Evo(ok:Ok)(w w':World):Prop where
 size:w.heap.size≤w'.heap.size
 cell:∀b o,ok b o→w'.cell? ⟨b,o,none⟩=w.cell? ⟨b,o,none⟩
 map:∀b es c,ok b 0→w.heap[b]?=some (.map es c)→w'.heap[b]?=some (.map es c)
def lt(w:World):Ok:=fun b _=>b<w.heap.size
theorem Evo.of_below{w w':World}(h:Below w.heap.size w w'):Evo (lt w) w w' :=
 ⟨h.size,fun b o hb=>h.cell (p:=⟨b,o,none⟩) hb,fun b es c hb hm=>by rw[h.block b hb]; exact hm⟩
theorem Evo.mono{ok ok':Ok}{w w':World}(h:Evo ok' w w')(hk:∀b o,ok b o→ok' b o):Evo ok w w' :=
 ⟨h.size,fun b o hb=>h.cell b o (hk b o hb),fun b es c hb hm=>h.map b es c (hk b 0 hb) hm⟩
theorem Evo.of_blocks{ok:Ok}{w w':World}(hs:w.heap.size≤w'.heap.size)(h:∀b o,ok b o→w'.heap[b]?=w.heap[b]?):Evo ok w w' :=
 ⟨hs,fun b o hb=>World.cell?_of_block (w:=w) (h b o hb),fun b es c hb hm=>by rw[h b 0 hb]; exact hm⟩
structure Ud(L:List Nat)(B:Nat)(w w':World):Prop where
 os:w'.os=w.os
 tape:w'.tape=w.tape
 output:w'.output=w.output
 size:w.heap.size≤w'.heap.size
 block:∀k,k<B→k∉L→w'.heap[k]?=w.heap[k]?
theorem Ud.refl(L:List Nat)(B:Nat)(w:World):Ud L B w w:=⟨rfl,rfl,rfl,QD _,fun _ _ _=>rfl⟩
theorem Ud.of(L:List Nat){B:Nat}{w w':World}(h:Below B w w'):Ud L B w w':=⟨h.os,h.tape,h.output,h.size,fun k hk _=>h.block k hk⟩
theorem Ud.nil{B:Nat}{w w':World}(h:Ud [] B w w'):Below B w w':=⟨h.os,h.tape,h.output,h.size,fun k hk=>h.block k hk (by simp)⟩
theorem Ud.trans{L:List Nat}{B:Nat}{a b c:World}(h:Ud L B a b)(k:Ud L B b c):Ud L B a c :=
 ⟨k.os.trans h.os,k.tape.trans h.tape,k.output.trans h.output,QN h.size k.size,fun i hi hn=>(k.block i hi hn).trans (h.block i hi hn)⟩
structure RT(τ:Type) where
 size:Nat
 agg:Bool
 rep:Ok→World→τ→List Value→Prop
 len:∀{ok w x cs},rep ok w x cs→cs.length=size
 one:agg=false→size=1
 flat:∀{ok w x cs},rep ok w x cs→∀c∈cs,c.oneCell'=true
 evo:∀{ok w w' x cs},rep ok w x cs→Evo ok w w'→rep ok w' x cs
 weak:∀{ok ok' w x cs},rep ok w x cs→(∀b o,ok b o→ok' b o)→rep ok' w x cs
def RT.val{τ:Type}(r:RT τ)(cs:List Value):Value:=if r.agg then .agg cs.toArray else cs.headD undef
def isV{τ:Type}(r:RT τ)(ok:Ok)(w:World)(x:τ)(v:Value):Prop:=∃cs,r.rep ok w x cs∧v=r.val cs
theorem isV.evo{τ:Type}{r:RT τ}{ok:Ok}{w w':World}{x:τ}{v:Value}(h:isV r ok w x v)(he:Evo ok w w'):isV r ok w' x v :=
 let⟨cs,hr,hv⟩:=h; ⟨cs,r.evo hr he,hv⟩
theorem isV.weak{τ:Type}{r:RT τ}{ok ok':Ok}{w:World}{x:τ}{v:Value}(h:isV r ok w x v)(hk:∀b o,ok b o→ok' b o):isV r ok' w x v :=
 let⟨cs,hr,hv⟩:=h; ⟨cs,r.weak hr hk,hv⟩
def Cz(ok:Ok)(w:World)(b o:Nat)(cs:List Value):Prop:=∀(j:Nat) u,cs[j]?=some u→ok b (o+j)∧w.cell? ⟨b,o+j,none⟩=some u
theorem Cz.evo{ok:Ok}{w w':World}{b o:Nat}{cs:List Value}(h:Cz ok w b o cs)(he:Evo ok w w'):Cz ok w' b o cs :=
 fun j u hu=>⟨(h j u hu).1,(he.cell _ _ (h j u hu).1).trans (h j u hu).2⟩
theorem Cz.weak{ok ok':Ok}{w:World}{b o:Nat}{cs:List Value}(h:Cz ok w b o cs)(hk:∀b o,ok b o→ok' b o):Cz ok' w b o cs :=
 fun j u hu=>⟨hk _ _ (h j u hu).1,(h j u hu).2⟩
def Qpf{τ:Type}(r:RT τ)(ok:Ok)(w:World)(x:τ)(p:Value):Prop :=
 ∃b o cs,p=.pointer (some ⟨b,o,none⟩)∧r.rep ok w x cs∧Cz ok w b o cs
theorem Qpf.evo{τ:Type}{r:RT τ}{ok:Ok}{w w':World}{x:τ}{v:Value}(h:Qpf r ok w x v)(he:Evo ok w w'):Qpf r ok w' x v :=
 let⟨b,o,cs,hv,hr,hc⟩:=h; ⟨b,o,cs,hv,r.evo hr he,hc.evo he⟩
theorem Qpf.weak{τ:Type}{r:RT τ}{ok ok':Ok}{w:World}{x:τ}{v:Value}(h:Qpf r ok w x v)(hk:∀b o,ok b o→ok' b o):Qpf r ok' w x v :=
 let⟨b,o,cs,hv,hr,hc⟩:=h; ⟨b,o,cs,hv,r.weak hr hk,hc.weak hk⟩
def Tk(k:IntKind):RT Int where
 size:=1
 agg:=false
 rep:=fun _ _ x cs=>cs=[.int k x]
 len:=by rintro _ _ x cs rfl; rfl
 one:=fun _=>rfl
 flat:=by rintro _ _ x cs rfl c hc; simp at hc; subst hc; rfl
 evo:=fun h _=>h
 weak:=fun h _=>h
def Qtv:RT Bool where
 size:=1
 agg:=false
 rep:=fun _ _ x cs=>cs=[.bool x]
 len:=by rintro _ _ x cs rfl; rfl
 one:=fun _=>rfl
 flat:=by rintro _ _ x cs rfl c hc; simp at hc; subst hc; rfl
 evo:=fun h _=>h
 weak:=fun h _=>h
abbrev Str:=List UInt8
def Ye(s:Str):Value:=.string ⟨s.toArray⟩
def Joz:RT Str where
 size:=1
 agg:=false
 rep:=fun _ _ x cs=>cs=[Ye x]
 len:=by rintro _ _ x cs rfl; rfl
 one:=fun _=>rfl
 flat:=by rintro _ _ x cs rfl c hc; simp at hc; subst hc; rfl
 evo:=fun h _=>h
 weak:=fun h _=>h
def Qzt{τ:Type}(r:RT τ)(ok:Ok)(w:World)(xs:List τ)(v:Value):Prop :=
 ∃A n c,v=.slice A n c∧xs.length=n∧n≤c ∧
  (0<n→∃b o,A=some ⟨b,o,none⟩∧∀i x,xs[i]?=some x→∃cs,r.rep ok w x cs∧Cz ok w b (o+i*r.size) cs)
def rSl{τ:Type}(r:RT τ):RT (List τ) where
 size:=1
 agg:=false
 rep:=fun ok w xs cs=>∃v,cs=[v]∧Qzt r ok w xs v
 len:=by rintro _ _ x cs ⟨v,rfl,_⟩; rfl
 one:=fun _=>rfl
 flat:=by rintro _ _ x cs ⟨v,rfl,A,n,c,rfl,_⟩ d hd; simp at hd; subst hd; rfl
 evo:=by
  rintro ok w w' xs cs ⟨v,rfl,A,n,c,rfl,hl,hc,hn⟩ he
  refine⟨_,rfl,A,n,c,rfl,hl,hc,fun h0=>?_⟩
  obtain⟨b,o,hA,hx⟩:=hn h0
  refine⟨b,o,hA,fun i x hi=>?_⟩
  obtain⟨cs,hr,ha⟩:=hx i x hi
  exact⟨cs,r.evo hr he,ha.evo he⟩
 weak:=by
  rintro ok ok' w xs cs ⟨v,rfl,A,n,c,rfl,hl,hc,hn⟩ hk
  refine⟨_,rfl,A,n,c,rfl,hl,hc,fun h0=>?_⟩
  obtain⟨b,o,hA,hx⟩:=hn h0
  refine⟨b,o,hA,fun i x hi=>?_⟩
  obtain⟨cs,hr,ha⟩:=hx i x hi
  exact⟨cs,r.weak hr hk,ha.weak hk⟩
theorem Jj0{k:IntKind}{ok:Ok}{w:World}{x:Int}{v:Value}:isV (Tk k) ok w x v↔v=.int k x:=by
 constructor
 ·rintro⟨cs,rfl,rfl⟩; rfl
 ·rintro rfl; exact⟨_,rfl,rfl⟩
theorem Qpg{ok:Ok}{w:World}{x:Bool}{v:Value}:isV Qtv ok w x v↔v=.bool x:=by
 constructor
 ·rintro⟨cs,rfl,rfl⟩; rfl
 ·rintro rfl; exact⟨_,rfl,rfl⟩
theorem Jj1{ok:Ok}{w:World}{x:Str}{v:Value}:isV Joz ok w x v↔v=Ye x:=by
 constructor
 ·rintro⟨cs,rfl,rfl⟩; rfl
 ·rintro rfl; exact⟨_,rfl,rfl⟩
theorem Z5{τ:Type}{r:RT τ}{ok:Ok}{w:World}{xs:List τ}{v:Value}:isV (rSl r) ok w xs v↔Qzt r ok w xs v:=by
 constructor
 ·rintro⟨cs,⟨v',rfl,h⟩,rfl⟩; exact h
 ·intro h; exact⟨[v],⟨v,rfl,h⟩,rfl⟩
structure Fld(σ:Type) where
 τ:Type
 r:RT τ
 get:σ→τ
def Kc{τ:Type}(r:RT τ)(ok:Ok)(w:World):List τ→List Value→Prop
 | [],cs=>cs=[]
 | x::xs,cs=>∃c1 c2,cs=c1++c2∧r.rep ok w x c1∧Kc r ok w xs c2
theorem Qzu{τ:Type}{r:RT τ}{ok:Ok}{w:World}{xs:List τ}{cs:List Value}(h:Kc r ok w xs cs):cs.length=xs.length*r.size:=by
 induction xs generalizing cs with
 | nil=>simp only[Kc]at h; subst h; simp
 | cons x xs ih=>obtain⟨c1,c2,rfl,h1,h2⟩:=h; simp[r.len h1,ih h2,QP,KS]
def Je1{τ:Type}(n:Nat)(r:RT τ):RT (List τ) where
 size:=n*r.size
 agg:=true
 rep:=fun ok w xs cs=>xs.length=n∧Kc r ok w xs cs
 len:=by rintro ok w xs cs ⟨rfl,h⟩; exact Qzu h
 one:=fun h=>by cases h
 flat:=by
  rintro ok w xs cs ⟨hl,h⟩
  clear hl
  induction xs generalizing cs with
  | nil=>simp only[Kc]at h; subst h; simp
  | cons f fs ih =>
   obtain⟨c1,c2,rfl,h1,h2⟩:=h
   intro c hc
   rcases QW.1 hc with hc | hc
   ·exact r.flat h1 c hc
   ·exact ih h2 c hc
 evo:=by
  rintro ok w w' xs cs ⟨hl,h⟩ he
  refine⟨hl,?_⟩
  clear hl
  induction xs generalizing cs with
  | nil=>exact h
  | cons f fs ih=>obtain⟨c1,c2,rfl,h1,h2⟩:=h; exact⟨c1,c2,rfl,r.evo h1 he,ih h2⟩
 weak:=by
  rintro ok ok' w xs cs ⟨hl,h⟩ he
  refine⟨hl,?_⟩
  clear hl
  induction xs generalizing cs with
  | nil=>exact h
  | cons f fs ih=>obtain⟨c1,c2,rfl,h1,h2⟩:=h; exact⟨c1,c2,rfl,r.weak h1 he,ih h2⟩
structure DF where
 p:Ok→World→Prop
 evo:∀{ok w w'},p ok w→Evo ok w w'→p ok w'
 weak:∀{ok ok' w},p ok w→(∀b o,ok b o→ok' b o)→p ok' w
def DF.v{τ:Type}(r:RT τ)(x:τ)(v:Value):DF:=⟨fun ok w=>isV r ok w x v,fun h he=>h.evo he,fun h hk=>h.weak hk⟩
def Qhx(ok:Ok)(w:World):List DF→Prop
 | []=>True
 | d::ds=>d.p ok w∧Qhx ok w ds
theorem Qhx.evo{ok:Ok}{w w':World}{D:List DF}(h:Qhx ok w D)(he:Evo ok w w'):Qhx ok w' D:=by
 induction D with
 | nil=>trivial
 | cons d ds ih=>exact⟨d.evo h.1 he,ih h.2⟩
theorem Qhx.weak{ok ok':Ok}{w:World}{D:List DF}(h:Qhx ok w D)(hk:∀b o,ok b o→ok' b o):Qhx ok' w D:=by
 induction D with
 | nil=>trivial
 | cons d ds ih=>exact⟨d.weak h.1 hk,ih h.2⟩
theorem Qhx.get{ok:Ok}{w:World}{D:List DF}(h:Qhx ok w D){i:Nat}{d:DF}(hi:D[i]?=some d):d.p ok w:=by
 induction D generalizing i with
 | nil=>simp at hi
 | cons e ds ih =>
  cases i with
  | zero=>simp at hi; subst hi; exact h.1
  | succ i=>simp at hi; exact ih h.2 hi
inductive AV where
 | v (x:Value)
 | o (id off:Nat)
structure HB where
 cs:List Value
 t:TypeId
def Jq{α:Type}:List (Nat×α)→Nat→Option α
 | [],_=>none
 | (k,x)::l,t=>bif Nat.beq k t then some x else Jq l t
theorem Qjx{α:Type}{l:List (Nat×α)}{t:Nat}{x:α}(h:Jq l t=some x):(t,x)∈l:=by
 induction l with
 | nil=>simp[Jq]at h
 | cons p l ih =>
  obtain⟨k,y⟩:=p
  simp only[Jq]at h
  cases hb:Nat.beq k t with
  | true=>rw[hb]at h; simp only[cond_true,Option.some.injEq]at h; subst h; have:=QJ hb; subst this; exact .head _
  | false=>rw[hb]at h; exact .tail _ (ih h)
def Qzv{α:Type}:List (Nat×α)→Nat→List (Nat×α)
 | [],_=>[]
 | (k,x)::l,t=>bif Nat.beq k t then Qzv l t else(k,x)::Qzv l t
theorem Je2{α:Type}{l:List (Nat×α)}{t:Nat}{p:Nat×α}(h:p∈Qzv l t):p∈l∧p.1≠t:=by
 induction l with
 | nil=>simp[Qzv]at h
 | cons q l ih =>
  obtain⟨k,y⟩:=q
  simp only[Qzv]at h
  cases hb:Nat.beq k t with
  | true=>rw[hb]at h; exact⟨.tail _ (ih h).1,(ih h).2⟩
  | false =>
   rw[hb]at h
   simp only[cond_false,QX]at h
   rcases h with rfl | h
   ·exact⟨.head _,fun e=>by simp only at e; subst e; simp[JY]at hb⟩
   ·exact⟨.tail _ (ih h).1,(ih h).2⟩
def Tl{α:Type}(l:List (Nat×α))(t:Nat)(x:α):List (Nat×α):=(t,x)::Qzv l t
def den(β:Nat→Nat):AV→Value
 | .v x=>x
 | .o id off=>.pointer (some ⟨β id,off,none⟩)
def Zv:Value→Nat
 | .slice _ n _=>n
 | _=>0
structure TL where
 blks:Nat→Prop
 cov:Nat→Nat→Prop
 cb:∀{b o},cov b o→blks b
 p:Ok→World→Prop
 keep:∀{ok w w'},p ok w→(∀g,blks g→w'.heap[g]?=w.heap[g]?)→Evo ok w w'→p ok w'
 weak:∀{ok ok' w},p ok w→(∀b o,ok b o→ok' b o)→p ok' w
 lt:∀{ok w},p ok w→∀g,blks g→g<w.heap.size
theorem Tm{base e s:Nat}{v:Value}{n:Nat}{xs:List Value}{w w':World}(hx:w.ownsRowS base e s v n xs)(hb:∀g,v.ownBlock=some g→w'.heap[g]?=w.heap[g]?):w'.ownsRowS base e s v n xs:=by
 refine⟨hx.1,?_⟩
 rcases hx.2 with h1 | ⟨g,cap,cur,fz,hv,hg,hh,r⟩
 ·exact .inl h1
 ·refine .inr ⟨g,cap,cur,fz,hv,hg,?_,r⟩
  rw[hb g (by rw[hv]; rfl)]; exact hh
def tl(v:Value)(e s:Nat):TL where
 blks:=fun g=>v.ownBlock=some g
 cov:=fun b o=>v.ownBlock=some b∧Zv v*s≤o
 cb:=fun h=>h.1
 p:=fun _ w=>∃xs,w.ownsRowS 0 e s v (Zv v) xs
 keep:=fun⟨xs,h⟩ hb _=>⟨xs,Tm h hb⟩
 weak:=fun h _=>h
 lt:=fun⟨_,h⟩ g hg=>(h.lt g hg).2
abbrev GL:=List (Nat×AV)
abbrev HL:=List (Nat×HB)
def Jf(ok0:Ok)(B:Nat)(β:Nat→Nat)(H:HL)(O:List TL)(w:World):Ok:=fun b o =>
 (ok0 b o∨B≤b)∧b<w.heap.size∧(∀h∈H,β h.1≠b)∧(∀t∈O,¬ t.cov b o)
structure Cx where
 n:Nat
 ok:Ok
 w:World
 res:List Nat
 a0:Act
 pin:Option (Nat→Nat)
 lent:List Nat
 lok:∀g∈lent,∀o,ok g o
 dfs:List Deferred
def okL(L:List Nat)(ok:Ok):Ok:=fun b o=>ok b o∨b∈L
abbrev cxL(L:List Nat)(n:Nat)(ok:Ok)(w:World):Cx:=⟨n,okL L ok,w,[],⟨#[],[]⟩,none,L,fun _ hg _=>.inr hg,[]⟩
def Cx.mine(X:Cx)(g:Nat):Prop:=X.w.heap.size≤g∨g∈X.lent
theorem Cx.mine_ok{X:Cx}{g:Nat}(h:X.mine g)(o:Nat):X.ok g o∨X.w.heap.size≤g:=h.elim .inr fun h=>.inl (X.lok g h o)
def Ql1:List Nat→Nat→Bool
 | [],_=>true
 | k::l,t=>bif Nat.beq k t then false else Ql1 l t
theorem Qzw{l:List Nat}{t:Nat}(h:Ql1 l t=true):t∉l:=by
 induction l with
 | nil=>simp
 | cons k l ih =>
  simp only[Ql1]at h
  cases hb:Nat.beq k t with
  | true=>rw[hb]at h; cases h
  | false =>
   rw[hb]at h
   intro hm
   rcases QX.1 hm with rfl | hm
   ·simp[JY]at hb
   ·exact ih h hm
def okD(X:Cx)(d:Nat):Bool:=Nat.blt d X.n&&(Ql1 X.res d&&Nat.blt d 100000)
theorem Tn{X:Cx}{d:Nat}(h:okD X d=true):d<X.n:=by
 simp only[okD,QQ]at h
 exact Nat.lt_of_succ_le (QF h.1)
theorem Qwp{X:Cx}{d:Nat}(h:okD X d=true):d∉X.res:=by
 simp only[okD,QQ]at h
 exact Qzw h.2.1
theorem Rj{X:Cx}{d:Nat}(h:okD X d=true):Nat.blt d 100000=true:=by
 simp only[okD,QQ]at h
 exact h.2.2
structure Sb(β:Nat→Nat)(X:Cx)(G:GL)(D:List DF)(H:HL)(O:List TL)(a:Act)(w:World):Prop where
 sz:a.tmps.size=X.n
 df:a.defers=X.dfs
 fr:∀t∈X.res,a.tmps[t]?=X.a0.tmps[t]?
 pn:∀f,X.pin=some f→∀h∈H,β h.1=f h.1
 tm:∀p∈G,a.tmps[p.1]?=some (den β p.2)
 bel:Ud X.lent X.w.heap.size X.w w
 dat:Qhx (Jf X.ok X.w.heap.size β H O w) w D
 obj:∀h∈H,w.heap[β h.1]?=some (.cells h.2.cs.toArray h.2.t (0,0))∧X.mine (β h.1)
 own:∀t∈O,t.p (Jf X.ok X.w.heap.size β H O w) w∧∀g,t.blks g→X.mine g
 dHH:∀h∈H,∀h'∈H,h.1≠h'.1→β h.1≠β h'.1
 dHO:∀h∈H,∀t∈O,¬ t.blks (β h.1)
 dOO:O.Pairwise fun s t=>∀g,s.blks g→¬ t.blks g
section
variable {β:Nat→Nat} {X:Cx} {G:GL} {D:List DF} {H:HL} {O:List TL} {a:Act} {w w':World}
theorem Qjy{ok0:Ok}(h:w.heap.size≤w'.heap.size){B:Nat}(b o:Nat):Jf ok0 B β H O w b o→Jf ok0 B β H O w' b o :=
 fun⟨h1,h2,h3,h4⟩=>⟨h1,by omega,h3,h4⟩
theorem Yi{w:World}{g:Nat}{o:Obj}(h:w.heap[g]?=some o):g<w.heap.size:=by
 rcases JL g w.heap.size with hlt | wx
 ·exact hlt
 ·rw[XI wx]at h; cases h
theorem Sb.olt(h:Sb β X G D H O a w){t:TL}(ht:t∈O){g:Nat}(hg:t.blks g):g<w.heap.size:=t.lt (h.own t ht).1 g hg
theorem Sb.hlt(h:Sb β X G D H O a w){p:Nat×HB}(hp:p∈H):β p.1<w.heap.size:=Yi (h.obj p hp).1
theorem Sb.below(h:Sb β X G D H O a w)(hb:Below w.heap.size w w'):Sb β X G D H O a w' where
 sz:=h.sz
 df:=h.df
 fr:=h.fr
 pn:=h.pn
 tm:=h.tm
 bel:=h.bel.trans (Ud.of _ (hb.mono h.bel.size))
 dat:=(h.dat.evo ((Evo.of_below hb).mono fun b o hk=>hk.2.1)).weak (Qjy hb.size)
 obj:=fun o ho=>⟨by rw[hb.block _ (Yi (h.obj o ho).1),(h.obj o ho).1],(h.obj o ho).2⟩
 own:=fun t ht=>⟨t.weak (t.keep (h.own t ht).1 (fun g hg=>hb.block g (h.olt ht hg)) ((Evo.of_below hb).mono fun b o hk=>hk.2.1)) (Qjy hb.size),(h.own t ht).2⟩
 dHH:=h.dHH
 dHO:=h.dHO
 dOO:=h.dOO
theorem Sb.act{a':Act}{G':GL}(h:Sb β X G D H O a w)(hs:a'.tmps.size=a.tmps.size)(hd:a'.defers=a.defers)(hr:∀t∈X.res,a'.tmps[t]?=a.tmps[t]?)
  (hg:∀p∈G',a'.tmps[p.1]?=some (den β p.2)):Sb β X G' D H O a' w :=
 { h with sz:=hs.trans h.sz,df:=hd.trans h.df,fr:=fun t ht=>(hr t ht).trans (h.fr t ht),tm:=hg }
theorem Sb.put(h:Sb β X G D H O a w){t:Nat}(ht:okD X t=true)(x:AV):Sb β X (Tl G t x) D H O (a.put (some t) (den β x)) w:=by
 refine h.act (by simp[Act.put]) rfl (fun k hk=>?_) fun p hp=>?_
 ·have k8:t≠k:=fun e=>Qwp ht (e▸hk)
  simp[Act.put,k8]
 simp only[Tl,QX]at hp
 rcases hp with rfl | hp
 ·simp[Act.put,h.sz,Tn ht]
 ·obtain⟨hp,k8⟩:=Je2 hp
  have hne':t≠p.1:=fun e=>k8 e.symm
  simp[Act.put,hne',h.tm p hp]
end
end Gd

/- The quiet operations of a walk, evaluated by a function; its soundness. -/
namespace Gd
open Go Go.RowKit
set_option linter.unusedVariables false
set_option linter.unusedSimpArgs false
structure TE where
 t:TypeId
 d:TypeDesc
 z:Value
 size:Nat
 bytes:Nat
abbrev Tab:=List TE
def Q4(P:Program):Tab→Prop
 | []=>True
 | e::T=>(((P.info? e.t).map (fun i=>(i.zero,i.size,i.bytes))=some (some e.z,e.size,e.bytes)∧P.underlying e.t=some e.d)∧(P.stoodInHeld e.t||P.eqGuardType P.depth e.t)=false)∧Q4 P T
def Qh:Tab→TypeId→Option TE
 | [],_=>none
 | e::T,t=>bif Nat.beq e.t t then some e else Qh T t
theorem Jm{P:Program}{T:Tab}(h:Q4 P T){t:TypeId}{e:TE}(he:Qh T t=some e) :
  (P.info? t).map (fun i=>(i.zero,i.size,i.bytes))=some (some e.z,e.size,e.bytes)∧P.underlying t=some e.d:=by
 induction T with
 | nil=>simp[Qh]at he
 | cons x T ih =>
  simp only[Qh]at he
  cases hb:Nat.beq x.t t with
  | true=>rw[hb]at he; simp only[cond_true,Option.some.injEq]at he; subst he; have:=QJ hb; subst this; exact h.1.1
  | false=>rw[hb]at he; exact ih h.2 he
theorem Qzx{P:Program}{T:Tab}(h:Q4 P T){t:TypeId}{e:TE}(he:Qh T t=some e):P.stoodInHeld t=false∧P.eqGuardType P.depth t=false:=by
 induction T with
 | nil=>simp[Qh]at he
 | cons x T ih =>
  simp only[Qh]at he
  cases hb:Nat.beq x.t t with
  | true=>rw[hb]at he; simp only[cond_true,Option.some.injEq]at he; subst he; have:=QJ hb; subst this; simpa[ZO]using h.1.2
  | false=>rw[hb]at he; exact ih h.2 he
theorem W7{P:Program}{T:Tab}(h:Q4 P T){t:TypeId}{e:TE}(he:Qh T t=some e) :
  ∃i,P.info? t=some i∧i.zero=some e.z∧i.size=e.size∧i.bytes=e.bytes:=by
 have:=(Jm h he).1
 cases hi:P.info? t with
 | none=>rw[hi]at this; simp at this
 | some i=>rw[hi]at this; simp at this; exact⟨i,rfl,this.1,this.2.1,this.2.2⟩
def X9:TypeDesc→Bool
 | .struct _ | .array _ _=>true
 | _=>false
section
variable {P:Program} {T:Tab} (hT:Q4 P T) (w:World)
include hT
theorem Qhy{t:TypeId}{e:TE}(he:Qh T t=some e):∃i,(typeInfo t).run P w=.ok i w∧i.zero=some e.z∧i.size=e.size∧i.bytes=e.bytes:=by
 obtain⟨i,hi,h1,h2,h3⟩:=W7 hT he
 exact⟨i,by simp[typeInfo,hi],h1,h2,h3⟩
theorem J6{t:TypeId}{e:TE}(he:Qh T t=some e):(Go.sizeOf t).run P w=.ok e.size w:=by
 obtain⟨i,hi,h1,h2,h3⟩:=Qhy hT w he
 simp[Go.sizeOf,hi,h2]
theorem Vc{t:TypeId}{e:TE}(he:Qh T t=some e):(zeroValue t).run P w=.ok e.z w:=by
 obtain⟨i,hi,h1,h2,h3⟩:=Qhy hT w he
 simp[zeroValue,hi,h1]
theorem Jx{t:TypeId}{e:TE}(he:Qh T t=some e):(underlying t).run P w=.ok e.d w :=
 run_underlying (Jm hT he).2 w
theorem Qtw{t:TypeId}{e:TE}(he:Qh T t=some e):(isAgg t).run P w=.ok (X9 e.d) w:=by
 simp only[isAgg,Sem.run_bind,Jx hT w he,Result.andThen_ok]
 cases e.d<;>rfl
theorem Qph{t:TypeId}{e:TE}(he:Qh T t=some e)(cs:List Value)(off:Nat){v:Value}
  (hv:(if X9 e.d then some (.agg ((cs.drop off).take e.size).toArray)else cs[off]?)=some v):(part t cs.toArray off).run P w=.ok v w:=by
 simp only[part,Sem.run_bind,Qtw hT w he,Result.andThen_ok]
 cases ha:X9 e.d with
 | true =>
  rw[ha]at hv
  simp only[if_true,Option.some.injEq]at hv
  subst hv
  simp[J6 hT w he,List.take_drop]
 | false =>
  rw[ha]at hv
  simp at hv
  simp[hv]
theorem Qhz{t:TypeId}{e:TE}(he:Qh T t=some e)(b o:Nat)(cs:List Value)(hl:cs.length=e.size)(tg:X9 e.d=false→cs.length=1)
  (hc:∀(j:Nat) u,cs[j]?=some u→w.cell? ⟨b,o+j,none⟩=some u) :
  (loadVar t ⟨b,o,none⟩).run P w=.ok (if X9 e.d then .agg cs.toArray else cs.headD undef) w:=by
 simp only[loadVar,Sem.run_bind,Qtw hT w he,Result.andThen_ok]
 cases ha:X9 e.d with
 | true =>
  simp only[if_true,Sem.run_bind,J6 hT w he,Result.andThen_ok,←hl]
  rw[run_loadCells_list w ⟨b,o,none⟩ cs (fun j v hj=>by rw[Addr.add_lit]; exact hc j v hj)]
  simp
 | false =>
  have h1:=tg ha
  match cs,h1 with
  | [c],_ =>
   have:=hc 0 c rfl
   simp at this
   simp[this]
end
theorem Is(β:Nat→Nat)(x:Value):den β (.v x)=x:=rfl
def gv(G:GL):Operand→Option AV
 | .tmp t=>Jq G t
 | .const v=>some (.v v)
 | .func f=>some (.v (.func (.func f) #[] #[]))
 | .global g=>some (.v (.pointer (some ⟨g,0,none⟩)))
def Q5h(op:BinOp)(k:IntKind)(a b:Int):Option Value :=
 match op with
 | .add=>some (.int k (k.wrap (a+b)))
 | .sub=>some (.int k (k.wrap (a - b)))
 | .mul=>some (.int k (k.wrap (a*b)))
 | .eql=>some (.bool (a==b))
 | .neq=>some (.bool (a != b))
 | .lss=>some (.bool (decide (a<b)))
 | .leq=>some (.bool (decide (a≤b)))
 | .gtr=>some (.bool (decide (a>b)))
 | .geq=>some (.bool (decide (a≥b)))
 | .and=>some (.int k (Go.bits .and k a b))
 | .or=>some (.int k (Go.bits .or k a b))
 | .xor=>some (.int k (Go.bits .xor k a b))
 | .andNot=>some (.int k (Go.bits .andNot k a b))
 | _=>none
def Qwq(op:BinOp)(k:IntKind)(a:Int):Int→Option Value
 | .ofNat (b+1)=>match op with
  | .quo=>some (.int k (k.wrap (a.tdiv (.ofNat (b+1)))))
  | .rem=>some (.int k (a.tmod (.ofNat (b+1))))
  | _=>none
 | _=>none
def Q5i(op:BinOp)(a b:Str):Option Value :=
 match op with
 | .eql=>some (.bool (a==b))
 | .neq=>some (.bool !(a==b))
 | .lss=>some (.bool (Op.bytesLess a b))
 | .leq=>some (.bool (Op.bytesLess a b||a==b))
 | .gtr=>some (.bool !(Op.bytesLess a b||a==b))
 | .geq=>some (.bool !(Op.bytesLess a b))
 | _=>none
def Rk:IntKind→IntKind→Bool
 | .i8,.i8 | .i16,.i16 | .i32,.i32 | .i64,.i64 | .u8,.u8 | .u16,.u16 | .u32,.u32 | .u64,.u64=>true
 | _,_=>false
theorem C4{a b:IntKind}(h:Rk a b=true):a=b:=by cases a<;>cases b<;>simp_all [Rk]
def Jmb:BinOp→Bool
 | .quo | .rem=>true
 | _=>false
def Qop(T:Tab)(t:TypeId):Bool :=
 match Qh T t with
 | some ⟨_,.bool,_,_,_⟩=>true
 | _=>false
def Qpi(T:Tab)(op:BinOp)(t:TypeId)(x y:Value):Option Value :=
 match x,y with
 | .int k a,.int k' b=>bif Rk k k' then(bif Jmb op then Qwq op k a b else Q5h op k a b)else none
 | .bool a,.bool b=>bif Qop T t then(match op with
  | .eql=>some (.bool (a==b))
  | .neq=>some (.bool (a != b))
  | _=>none)else none
 | .string ⟨⟨a⟩⟩,.string ⟨⟨b⟩⟩=>Q5i op a b
 | _,_=>none
def Je3(op:UnOp)(x:Value):Option Value :=
 match op,x with
 | .neg,.int k n=>some (.int k (k.wrap (0 - n)))
 | .not,.bool b=>some (.bool !b)
 | _,_=>none
def Js9(c:Bool)(x y:Option AV):Option AV :=
 match x,y with
 | some (.v (.bool p)),some (.v (.bool q))=>some (.v (.bool (bif c then p else q)))
 | _,_=>match c with
  | true=>x
  | false=>y
def Qpj(T:Tab)(fs:Array Field)(f:Nat):Option Nat :=
 match fs[f]? with
 | some fd=>match Qh T fd.type with
  | some ⟨_,_,_,_+1,_⟩=>some fd.offset
  | _=>none
 | none=>none
def Qh0(T:Tab):List Field→Option (List (Nat×Nat))
 | []=>some []
 | f::fs=>match Qh T f.type,Qh0 T fs with
  | some e,some ps=>some ((f.offset,e.size)::ps)
  | _,_=>none
def evParts(G:GL):List (Nat×Operand)→Option (List (Nat×Value))
 | []=>some []
 | (i,x)::xs=>match gv G x,evParts G xs with
  | some (.v v),some vs=>some ((i,v)::vs)
  | _,_=>none
def Qzy(cs:List Value)(off:Nat)(vs:List Value):List Value:=cs.take off++vs++cs.drop (off+vs.length)
def Qu:Value→List Value
 | .agg ⟨cs⟩=>cs
 | v=>[v]
theorem Vp(v:Value):Qu v=v.cells.toList:=by cases v<;>rfl
def N0(ps:Nat→Option (Nat×Nat))(cs:List Value):List (Nat×Value)→Option (List Value)
 | []=>some cs
 | (i,v)::rest=>match ps i with
  | none=>none
  | some (off,size) =>
   bif Nat.beq (Qu v).length size&&Nat.ble (off+(Qu v).length) cs.length then N0 ps (Qzy cs off (Qu v)) rest else none
section
variable {P:Program} {T:Tab} {β:Nat→Nat} {X:Cx} {G:GL} {D:List DF} {H:HL} {O:List TL} {a:Act} {w w':World}
theorem Sb.ev(h:Sb β X G D H O a w){x:Operand}{v:AV}(hx:gv G x=some v):a.eval x=den β v:=by
 cases x with
 | tmp t =>
  have:=h.tm _ (Qjx hx)
  simp only at this
  simp[Act.eval,this]
 | const v=>simp[gv]at hx; subst hx; rfl
 | func f=>simp[gv]at hx; subst hx; rfl
 | global g=>simp[gv]at hx; subst hx; rfl
theorem Jat{op:BinOp}{t:TypeId}{a b:Str}{v:Value}(h:Q5i op a b=some v):(binOp op t (.string ⟨⟨a⟩⟩) (.string ⟨⟨b⟩⟩))=(pure v:Sem Value):=by
 have ha:(ByteArray.mk ⟨a⟩).toList=a:=ByteArray.toList_mk a
 have hb:(ByteArray.mk ⟨b⟩).toList=b:=ByteArray.toList_mk b
 cases op<;>simp[Q5i]at h<;>subst h<;>simp[binOp,Op.stringOp,ha,hb]
theorem Jau{op:BinOp}{t:TypeId}{k:IntKind}{a b:Int}{v:Value}(h:Q5h op k a b=some v):(binOp op t (.int k a) (.int k b))=(pure v:Sem Value):=by
 cases op<;>simp[Q5h]at h<;>subst h<;>simp[binOp,Op.intArith,Op.intCmp]<;>rfl
theorem Q5j{op:BinOp}{t:TypeId}{k:IntKind}{a b:Int}{v:Value}(h:Qwq op k a b=some v):(binOp op t (.int k a) (.int k b))=(pure v:Sem Value):=by
 unfold Qwq at h
 split at h
 ·rename_i m
  have hm:(Int.ofNat (m+1))≠0:=by simp only[Int.ofNat_eq_natCast]; omega
  cases op<;>first | (simp at h; done) | skip
  ·simp only[Option.some.injEq]at h; subst h; rw[binOp_quo]; unfold Op.intDiv; rw[if_neg hm]
  ·simp only[Option.some.injEq]at h; subst h; rw[binOp_rem]; unfold Op.intDiv; rw[if_neg hm]
 ·cases h
theorem Q5k(hT:Q4 P T){t:TypeId}(h:Qop T t=true):P.underlying t=some .bool:=by
 unfold Qop at h
 split at h
 ·rename_i he; exact(Jm hT he).2
 ·cases h
theorem Q5l{t:TypeId}(ht:P.underlying t=some .bool)(a b:Bool)(w:World):(Op.equal t (.bool a) (.bool b)).run P w=.ok (a==b) w:=by
 have h:∀d:Nat,(Op.equalIn (d+1) t (.bool a) (.bool b)).run P w=.ok (a==b) w:=fun d=>by
  simp[Op.equalIn,run_underlying ht]
 exact h 9999
theorem Jav(hT:Q4 P T){op:BinOp}{t:TypeId}{x y v:Value}(h:Qpi T op t x y=some v)(w:World):(binOp op t x y).run P w=.ok v w:=by
 unfold Qpi at h
 split at h
 ·rename_i k a k' b
  cases hk:Rk k k' with
  | false=>rw[hk]at h; cases h
  | true =>
   rw[hk]at h
   have:=C4 hk
   subst this
   simp only[cond_true]at h
   cases hd:Jmb op with
   | true=>rw[hd]at h; rw[Q5j h]; rfl
   | false=>rw[hd]at h; rw[Jau h]; rfl
 ·rename_i a b
  cases hb:Qop T t with
  | false=>rw[hb]at h; cases h
  | true =>
   rw[hb]at h
   have hu:=Q5k hT hb
   cases op<;>simp at h<;>subst h<;>simp[binOp,Q5l hu]
   cases a<;>cases b<;>rfl
 ·rw[Jat h]; rfl
 ·cases h
theorem Je4{op:UnOp}{x v:Value}(h:Je3 op x=some v)(w:World):(Op.unary op x).run P w=.ok v w:=by
 unfold Je3 at h
 split at h<;>simp at h<;>subst h<;>simp[Op.unary,Op.intArith]
theorem Qwr{op:BinOp}{t:TypeId}{x y:Value}{p q:Operand}{v:Value}(h:Qpi T op t x y=some v):eqGuard op t p q x y=pure ():=by
 unfold Qpi at h
 split at h
 ·exact eqGuard_at_int _ _ _ _ _ _ _
 ·exact eqGuard_at_bool _ _ _ _ _ _
 ·exact eqGuard_at_string _ _ _ _ _ _
 ·cases h
theorem Qzz{fs:Array Field}{f k:Nat}(h:Qpj T fs f=some k):∃fd,fs[f]?=some fd∧fd.offset=k∧∃e,Qh T fd.type=some e∧e.size≠0:=by
 unfold Qpj at h
 split at h
 ·rename_i fd hf
  split at h
  ·rename_i he
   simp at h
   exact⟨fd,hf,h,_,he,by simp⟩
  ·cases h
 ·cases h
theorem Je5(l:List UInt8):(ByteArray.mk ⟨l⟩).size=l.length:=rfl
theorem Qpk(hT:Q4 P T):∀{fs:List Field} {ps:List (Nat×Nat)},Qh0 T fs=some ps→fs.mapM (fun f=>(P.info? f.type).map fun i=>(f.offset,i.size))=some ps
 | [],ps,h=>by simp[Qh0]at h; subst h; rfl
 | f::fs,ps,h=>by
  simp only[Qh0]at h
  split at h
  ·rename_i e ps' he hp
   simp at h; subst h
   obtain⟨i,hi,_,hs,_⟩:=W7 hT he
   simp[VR,hi,hs,Qpk hT hp]
  ·cases h
theorem Qgf(h:Sb β X G D H O a w):∀{xs:List (Nat×Operand)} {vs:List (Nat×Value)},evParts G xs=some vs→xs.map (fun p=>(p.1,a.eval p.2))=vs
 | [],vs,hv=>by simp[evParts]at hv; subst hv; rfl
 | (i,x)::xs,vs,hv=>by
  simp only[evParts]at hv
  split at hv
  ·rename_i v us h1 h2
   simp at hv; subst hv
   simp[h.ev h1,Is,Qgf h h2]
  ·cases hv
theorem Jj2(cs:List Value)(off:Nat)(vs:List Value)(hle:off+vs.length≤cs.length) :
  (vs.toArray.zipIdx.foldl (fun cs (c,j)=>cs.setIfInBounds (off+j) c) cs.toArray)=(Qzy cs off vs).toArray:=by
 have key:∀(vs:List Value) (k:Nat) (cs:List Value),off+k+vs.length≤cs.length →
   (vs.zipIdx k).foldl (fun(cs:Array Value) (p:Value×Nat)=>cs.setIfInBounds (off+p.2) p.1) cs.toArray=(cs.take (off+k)++vs++cs.drop (off+k+vs.length)).toArray:=by
  intro vs
  induction vs with
  | nil=>intro k cs _; simp
  | cons v vs ih =>
   intro k cs hl
   simp only[List.zipIdx_cons,List.foldl_cons,JI]at hl ⊢
   have hlt:off+k<cs.length:=by omega
   rw[List.setIfInBounds_toArray,ih (k+1) _ (by simp; omega)]
   congr 1
   have e1:off+(k+1)=off+k+1:=by omega
   rw[e1,List.take_set,List.drop_set_of_lt (by omega)]
   rw[List.take_succ_eq_append_getElem hlt,List.set_append_right _ _ (by simp; omega)]
   simp only[QO,ZY (Nat.le_of_lt hlt),Nat.sub_self,List.set_cons_zero]
   have e2:off+k+1+vs.length=off+k+(vs.length+1):=by omega
   rw[e2]
   simp
 have:=key vs 0 cs (by simpa using hle)
 simp only[ZD]at this
 rw[←Array.foldl_toList]
 simpa[Qzy]using this
theorem Rl(ps:Nat→Option (Nat×Nat)):∀{vs:List (Nat×Value)} {cs cs':List Value},N0 ps cs vs=some cs'→Instr.fill ps cs.toArray vs=some cs'.toArray
 | [],cs,cs',h=>by simp[N0]at h; subst h; rfl
 | (i,v)::rest,cs,cs',h=>by
  simp only[N0]at h
  split at h
  ·cases h
  ·rename_i off size hp
   rw[Vp]at h
   cases hb:(Nat.beq v.cells.toList.length size&&Nat.ble (off+v.cells.toList.length) cs.length)with
   | false=>rw[hb]at h; cases h
   | true =>
    rw[hb]at h
    simp only[cond_true]at h
    simp only[QQ]at hb
    have h1:=QJ hb.1
    have h2:=QF hb.2
    have:=Rl ps h
    simp only[XR]at h1 h2
    unfold Instr.fill
    simp only[hp]
    rw[if_neg (by simp; omega)]
    have hl:=Jj2 cs off v.cells.toList (by simpa using h2)
    simp only[VP]at hl
    rw[hl]
    exact this
end
end Gd

/- Sequences of quiet operations, new objects and stores into them. -/
namespace Gd
open Go Go.RowKit
set_option linter.unusedVariables false
set_option linter.unusedSimpArgs false
def B4(ops:Array Oper)(G:GL)(o:Oper):Option Bool :=
 match o.guard with
 | none=>some true
 | some (j,want)=>match ops[j]? with
  | some p=>match p.dst with
   | some t=>match Jq G t with
    | some (.v (.bool b))=>some (b==want)
    | some (.v (.tuple _))=>some false
    | _=>none
   | none=>none
  | none=>none
section
variable {P:Program} {T:Tab} {β:Nat→Nat} {X:Cx} {G:GL} {D:List DF} {H:HL} {O:List TL} {a:Act} {w w':World}
theorem Kj(h:Sb β X G D H O a w){ops:Array Oper}{o:Oper}{g:Bool}(hg:B4 ops G o=some g):Region.wanted o (yielded ops a.tmps)=g:=by
 unfold B4 at hg
 unfold Region.wanted
 split at hg
 ·rename_i hn; rw[hn]; simpa using hg
 ·rename_i j want hn
  rw[hn]
  split at hg
  ·rename_i p hp
   split at hg
   ·rename_i t ht
    split at hg
    ·rename_i b hb
     simp at hg
     have:=h.tm _ (Qjx hb)
     simp only[Is]at this
     have hy:yielded ops a.tmps j=some b:=by simp[yielded,hp,ht,this]
     show(yielded ops a.tmps j==some want)=g
     rw[hy,←hg]
     cases b<;>cases want<;>rfl
    ·rename_i hb
     simp at hg
     have:=h.tm _ (Qjx hb)
     simp only[Is]at this
     have hy:yielded ops a.tmps j=none:=by simp[yielded,hp,ht,this]
     show(yielded ops a.tmps j==some want)=g
     rw[hy,hg]; rfl
    ·cases hg
   ·cases hg
  ·cases hg
theorem Jl{ops:Array Oper}{Q:Exit→Act→World→Prop}{rest:List Oper}{o:Oper}(hw:Region.wanted o (yielded ops a.tmps)=true)
  (h:o.wp P a w (wpList P ops Q rest) Q):wpList P ops Q (o::rest) a w:=by
 unfold wpList
 rw[if_pos hw]
 exact .inl h
theorem Yo{o:Oper}{next:Act→World→Prop}{Q:Exit→Act→World→Prop}{v:Value}(hr:(execOp a.eval o).run P w=.ok (.value v) w')(h:next (a.put o.dst v) w') :
  o.wp P a w next Q:=by
 unfold Oper.wp; rw[hr]; exact h
end
end Gd

/- Steps of a walk that read data, call, append. -/
namespace Gd
open Go Go.RowKit
set_option linter.unusedVariables false
set_option linter.unusedSimpArgs false
section
variable {P:Program} {T:Tab} {β:Nat→Nat} {X:Cx} {G:GL} {D:List DF} {H:HL} {O:List TL} {a:Act} {w w':World}
theorem Sb.d(h:Sb β X G D H O a w)(i:Nat){d:DF}(hi:D[i]?=some d):d.p (Jf X.ok X.w.heap.size β H O w) w:=h.dat.get hi
theorem Sb.addD(h:Sb β X G D H O a w){d:DF}(hd:d.p (Jf X.ok X.w.heap.size β H O w) w):Sb β X G (d::D) H O a w:={ h with dat:=⟨hd,h.dat⟩ }
section steps
variable {ops:Array Oper} {Q:Exit→Act→World→Prop} {rest:List Oper} {o:Oper}
theorem Je6{τ:Type}{r:RT τ}{ok:Ok}{w:World}{xs:List τ}{A:Option Addr}{m c:Nat}(h:Qzt r ok w xs (.slice A m c)){i:Nat}{x:τ}(hx:xs[i]?=some x) :
  ∃b o,A=some ⟨b,o,none⟩∧i<m∧Qpf r ok w x (.pointer (some ⟨b,o+i*r.size,none⟩)):=by
 obtain⟨A',m',c',hv,hl,hc,hn⟩:=h
 injection hv with e1 e2 e3
 subst e1; subst e2; subst e3
 have hi:i<m:=by rw[←hl]; exact(QK.1 hx).1
 obtain⟨b,o,hA,zr⟩:=hn (by omega)
 obtain⟨cs,hr,ha⟩:=zr i x hx
 exact⟨b,o,hA,hi,b,_,cs,rfl,hr,ha⟩
def okx(ok:Ok)(w w':World):Ok:=fun b o=>ok b o∨(w.heap.size≤b∧b<w'.heap.size)
def Qws(L:List Nat)(w:World)(R:Value→World→Prop):Ending→World→Prop:=fun e w'=>∃v,e=.returned v∧R v w'∧Ud L w.heap.size w w'
abbrev Ret(w:World)(R:Value→World→Prop):Ending→World→Prop:=Qws [] w R
def Runs(P:Program)(f:FuncId):Prop:=∃fn,P.funcs[f]?=some fn∧fn.name ≠ "runtime.NumGoroutine" ∧ fn.body.isNone=false
theorem Qh1{f:FuncId}(hf:Runs P f)(args:Array Value)(w:World):(callFunc f args).run P w=.ok (.enter f args) w:=by
 obtain⟨fn,h1,h2,h3⟩:=hf
 have zj:(fn.name == "runtime.NumGoroutine")=false:=by simpa using h2
 obtain⟨c,hc⟩:∃c,fn.body=some c:=by
  cases hb:fn.body with
  | none=>rw[hb]at h3; cases h3
  | some c=>exact⟨c,rfl⟩
 simp[callFunc,h1,h2,hc]
end steps
theorem To{c:Code}{Q:Exit→Act→World→Prop}(I:Nat→Act→World→Prop)(m:Nat)(h0:I m a w)
  (round:∀m a w,I m a w→c.wp P (Exit.then (fun a' w'=>∃k,k<m∧I k a' w') Q) a w):(Code.loop c).wp P Q a w:=by
 intro b k cs
 have key:∀m a w,I m a w→∃e a' w',Q e a' w'∧Arrives P (lone (b.at a (.code c::.inLoop c::k)) cs w) b k cs e a' w':=by
  intro m
  induction m using Nat.strongRecOn with
  | _ m ih =>
   intro a w hI
   obtain⟨e,a₁,w₁,hq,ur⟩:=round m a w hI b (.inLoop c::k) cs
   cases e with
   | normal =>
    obtain⟨k',hlt,hI₁⟩:=hq
    obtain⟨e₂,a₂,w₂,hq₂,bg⟩:=ih k' hlt a₁ w₁ hI₁
    exact⟨e₂,a₂,w₂,hq₂,.of_steps (Steps.trans ur (.one step_inLoop)) bg⟩
   | exit id=>exact⟨_,a₁,w₁,hq,.pass (x:=.inLoop c) rfl (fun _ _=>.inl (by simp)) ur⟩
   | goto l=>exact⟨_,a₁,w₁,hq,.pass (x:=.inLoop c) rfl (fun _ _=>.inl (by simp)) ur⟩
   | ret=>exact⟨_,a₁,w₁,hq,.pass (x:=.inLoop c) rfl (fun _ _=>.inl (by simp)) ur⟩
   | panic ch=>exact⟨_,a₁,w₁,hq,.pass (x:=.inLoop c) rfl (fun _ _=>.inl (by simp)) ur⟩
   | outgrown=>exact⟨_,a₁,w₁,hq,.pass (x:=.inLoop c) rfl (fun _ _=>.inl (by simp)) ur⟩
 obtain⟨e,a',w',hq,ur⟩:=key m a w h0
 exact⟨e,a',w',hq,.of_steps (.one step_loop) ur⟩
def Qz0:List Value→Nat→GL
 | [],_=>[]
 | v::vs,i=>(i,.v v)::Qz0 vs (i+1)
theorem Qz1{vs:List Value}{i:Nat}{p:Nat×AV}(h:p∈Qz0 vs i):∃j v,p=(i+j,.v v)∧vs[j]?=some v:=by
 induction vs generalizing i with
 | nil=>simp[Qz0]at h
 | cons v vs ih =>
  simp only[Qz0,QX]at h
  rcases h with rfl | h
  ·exact⟨0,v,rfl,rfl⟩
  ·obtain⟨j,u,rfl,hu⟩:=ih h
   exact⟨j+1,u,by rw[ZG,KS 1 j],hu⟩
end
end Gd
namespace Gd
open Go Go.RowKit
section
variable {P:Program} {T:Tab} {β:Nat→Nat} {X:Cx} {G:GL} {D:List DF} {H:HL} {O:List TL} {a:Act} {w w':World}
end
def idx{α:Type}(xs:List α)(i:Int):Option α:=if 0≤i then xs[i.toNat]? else none
theorem W8{α:Type}{xs:List α}{i:Int}{x:α}(h:idx xs i=some x):0≤i∧xs[i.toNat]?=some x:=by
 unfold idx at h
 split at h
 ·exact⟨by assumption,h⟩
 ·cases h
def B5(s:Str)(i:Int):Option Int:=(idx s i).map fun c=>(c.toNat:Int)
theorem Jj3{s:Str}{i:Int}{x:Int}(h:B5 s i=some x):0≤i∧∃c,s[i.toNat]?=some c∧x=(c.toNat:Int):=by
 obtain⟨c,hc,rfl⟩:=KZ.1 h
 exact⟨(W8 hc).1,c,(W8 hc).2,rfl⟩
theorem Yk{α β:Type}{o:Option α}{f:α→Option β}{r:β}(h:o.bind f=some r):∃x,o=some x∧f x=some r:=ZH.1 h
theorem Jmc{τ:Type}{r:RT τ}{ok:Ok}{w:World}:isV (rSl r) ok w [] (.slice none 0 0):=Z5.2 ⟨none,0,0,rfl,rfl,QD _,fun h=>absurd h (by omega)⟩
theorem Qjz{τ:Type}{r:RT τ}{ok:Ok}{w:World}{xs:List τ}{v:Value}(h:isV (rSl r) ok w xs v):∃A c,v=.slice A xs.length c∧isV (rSl r) ok w xs (.slice A xs.length c):=by
 obtain⟨A,n,c,rfl,hl,r⟩:=Z5.1 h
 subst hl
 exact⟨A,c,rfl,h⟩
end Gd

/- More steps: elements, appends, new slices. -/
namespace Gd
open Go Go.RowKit
set_option linter.unusedVariables false
set_option linter.unusedSimpArgs false
section
variable {P:Program} {T:Tab} {β:Nat→Nat} {X:Cx} {G:GL} {D:List DF} {H:HL} {O:List TL} {a:Act} {w w':World}
variable {ops:Array Oper} {Q:Exit→Act→World→Prop} {rest:List Oper} {o:Oper}
end
end Gd
namespace Gd
open Go Go.RowKit
def R1{τ:Type}(r:RT τ)(ok:Ok)(w:World)(y:τ):Value→World→Prop:=fun v w'=>isV r (okx ok w w') w' y v
end Gd
namespace Gd
open Go Go.RowKit
section
variable {P:Program} {T:Tab} {β:Nat→Nat} {X:Cx} {G:GL} {D:List DF} {H:HL} {O:List TL} {a:Act} {w w':World}
variable {ops:Array Oper} {Q:Exit→Act→World→Prop} {rest:List Oper} {o:Oper}
end
end Gd

/- New slices, appends, parts of slices and strings. -/
namespace Gd
open Go Go.RowKit Go.Lib
set_option linter.unusedVariables false
set_option linter.unusedSimpArgs false
def Qs0{τ:Type}(r:RT τ)(ok:Ok)(w:World):List τ→List Value→Prop
 | [],[]=>True
 | x::xs,v::vs=>isV r ok w x v∧Qs0 r ok w xs vs
 | _,_=>False
theorem Q5m{τ:Type}{r:RT τ}{ok:Ok}{w:World}{x:τ}{cs:List Value}(h:r.rep ok w x cs):Qu (r.val cs)=cs:=by
 unfold RT.val
 cases ha:r.agg with
 | true=>rfl
 | false =>
  have h1:=r.len h
  rw[r.one ha]at h1
  match cs,h1 with
  | [c],_ =>
   have:=r.flat h c (by simp)
   cases c<;>first | rfl | (simp[Value.oneCell']at this)
theorem B6{τ:Type}{r:RT τ}{ok:Ok}{w:World}{x:τ}{v:Value}(h:isV r ok w x v):r.rep ok w x (Qu v):=by
 obtain⟨cs,hr,rfl⟩:=h
 rw[Q5m hr]; exact hr
theorem Qz2{τ:Type}{r:RT τ}{ok:Ok}{w:World}:∀{xs:List τ} {vs:List Value},Qs0 r ok w xs vs→(vs.flatMap Qu).length=xs.length*r.size∧vs.length=xs.length
 | [],[],_=>by simp
 | x::xs,v::vs,h=>by
  have h1:=r.len (B6 h.1)
  have h2:=Qz2 h.2
  simp[h1,h2.1,h2.2,QP]; omega
theorem Q71{τ:Type}{r:RT τ}{ok:Ok}{w:World}:∀{xs:List τ} {vs:List Value},Qs0 r ok w xs vs→∀(i:Nat) (x:τ),xs[i]?=some x →
  ∃cs,r.rep ok w x cs∧∀(j:Nat) u,cs[j]?=some u→(vs.flatMap Qu)[i*r.size+j]?=some u
 | [],[],_,i,x,hx=>by simp at hx
 | y::ys,v::vs,h,i,x,hx=>by
  have h1:=r.len (B6 h.1)
  cases i with
  | zero =>
   simp at hx; subst hx
   refine⟨Qu v,B6 h.1,fun j u hu=>?_⟩
   have hj:=(QK.1 hu).1
   simp only[XE,XB,QE]
   rw[JF hj]; exact hu
  | succ i =>
   simp at hx
   obtain⟨cs,hr,hc⟩:=Q71 h.2 i x hx
   refine⟨cs,hr,fun j u hu=>?_⟩
   simp only[XE]
   rw[JE (by rw[h1,QP]; omega),h1]
   have:(i+1)*r.size+j - r.size=i*r.size+j:=by rw[QP]; omega
   rw[this]
   exact hc j u hu
section
variable {P:Program} {T:Tab} {β:Nat→Nat} {X:Cx} {G:GL} {D:List DF} {H:HL} {O:List TL} {a:Act} {w w':World}
variable {ops:Array Oper} {Q:Exit→Act→World→Prop} {rest:List Oper}
theorem Sb.fresh(h:Sb β X G D H O a w){τ:Type}{r:RT τ}{xs:List τ}{cs:List Value}{tail:List Value}(e:TypeId)(c:Nat)
  (hc:∀(i:Nat) (x:τ),xs[i]?=some x→∃ds,r.rep (Jf X.ok X.w.heap.size β H O w) w x ds∧∀(j:Nat) u,ds[j]?=some u→cs[i*r.size+j]?=some u)
  (hl:xs.length≤c) (w':World) (hb:Below w.heap.size w w') {fr:Nat×Nat} (nq:w'.heap[w.heap.size]?=some (.cells (cs++tail).toArray e fr)) :
  isV (rSl r) (Jf X.ok X.w.heap.size β H O w') w' xs (.slice (some ⟨w.heap.size,0,none⟩) xs.length c):=by
 have yo:Evo (Jf X.ok X.w.heap.size β H O w) w w':=(Evo.of_below hb).mono fun _ _ hk=>hk.2.1
 have hlt:w.heap.size<w'.heap.size:=Yi nq
 refine Z5.2 ⟨_,_,_,rfl,rfl,hl,fun _=>⟨_,0,rfl,fun i x hx=>?_⟩⟩
 obtain⟨ds,hr,hd⟩:=hc i x hx
 refine⟨ds,r.weak (r.evo hr yo) (Qjy hb.size),fun j u hu=>⟨⟨.inr h.bel.size,hlt,fun p hp=>?_,fun t ht y7=>?_⟩,?_⟩⟩
 ·exact WY (h.hlt hp)
 ·exact Nat.lt_irrefl _ (h.olt ht (t.cb y7))
 ·have:=hd j u hu
  have hj:=(QK.1 this).1
  simp only[World.cell?,nq,QE,Option.isSome_none,XQ,if_false]
  rw[ZK,JF hj]
  exact this
def Qch(size:Nat):Nat→Option (Nat×Nat):=fun i=>some (i*size,size)
def U0(z:List Value)(m:Nat):List Value:=(List.range m).map fun j=>z.getD (j % z.length) undef
theorem Qnc(hT:Q4 P T)(h:Sb β X G D H O a w){t:TypeId}{len:Nat}{parts:List (Nat×Operand)}{d:Nat}{ps:String}{af:Array Edge}{ty:TypeId}{gd:Option (Nat×Bool)}
  (hg:B4 ops G ⟨some d,.buildSlice t len ⟨parts⟩,ty,ps,af,gd⟩=some true) (hlt:okD X d=true)
  {τ:Type} {r:RT τ} {xs:List τ} {vs:List Value} {pvs:List (Nat×Value)} (hpv:evParts G parts=some pvs)
  {e:TypeId} {te ee:TE} (ht:Qh T t=some te) (kr:te.d=.slice e) (he:Qh T e=some ee) (hs:ee.size=r.size) (xn:xs.length=len)
  (td:Nat.ble (len*ee.size) 16777216=true) (hps:Nat.ble 1 (len*ee.size)=true) (hz:Nat.beq (Qu ee.z).length ee.size=true)
  (z7:N0 (Qch ee.size) (U0 (Qu ee.z) (len*ee.size)) pvs=some (vs.flatMap Qu))
  (hv:Qs0 r (Jf X.ok X.w.heap.size β H O w) w xs vs)
  (hk:∀A c a' w',isV (rSl r) (Jf X.ok X.w.heap.size β H O w') w' xs (.slice A xs.length c)→Sb β X (Tl G d (.v (.slice A xs.length c))) D H O a' w'→wpList P ops Q rest a' w') :
  wpList P ops Q (⟨some d,.buildSlice t len ⟨parts⟩,ty,ps,af,gd⟩::rest) a w:=by
 have ka:(execOp a.eval ⟨some d,.buildSlice t len ⟨parts⟩,ty,ps,af,gd⟩).run P w=.ok (.value (.slice (some ⟨w.heap.size,0,none⟩) xs.length len)) (w.alloc (.cells (vs.flatMap Qu).toArray e)):=by
  have yx:=Qgf h hpv
  have hm:(Array.mk parts).map (fun(x:Nat×Operand)=>(x.1,a.eval x.2))=⟨pvs⟩:=by rw[←yx]; simp
  have wq:(underlying t).run P w=.ok (.slice e) w:=by rw[Jx hT w ht,kr]
  have bh:¬ len*ee.size>16777216:=by have:=QF td; omega
  have xi:=QJ hz
  have hf:Instr.fill (fun i=>some (i*ee.size,ee.size)) (U0 (Qu ee.z) (len*ee.size)).toArray pvs=some (vs.flatMap Qu).toArray:=Rl _ z7
  have th:(Array.range (len*ee.size)).map (fun x=>ee.z.cells[x % ee.z.cells.size]!)=(U0 (Qu ee.z) (len*ee.size)).toArray:=by
   rw[Vp]
   unfold U0
   apply Array.ext
   ·simp
   ·intro i h1 h2
    have hi:i<len*ee.size:=by simpa using h1
    have k8:0<ee.size:=by
     rcases XJ ee.size with h0 | h0
     ·rw[h0]at hi; omega
     ·exact h0
    have xf:ee.z.cells.size=ee.size:=by rw[←xi,Vp]; simp
    have qo:i % ee.z.cells.size<ee.z.cells.size:=KT _ (by omega)
    simp[getElem!_pos,qo]
  unfold execOp
  simp only[Instr.buildSlice,Sem.run_bind,wq,J6 hT w he,Result.andThen_ok,hm]
  have h0:¬ len*ee.size=0:=by have:=QF hps; omega
  have vz:len≠0:=fun e=>h0 (by rw[e,XB])
  have jy:ee.size≠0:=fun e=>h0 (by rw[e,Nat.mul_zero])
  simp[bh,vz,jy,Vc hT w he,th,hf,newRow,xn]
  exact fun e=>absurd e h0
 refine Jl (Kj h hg) (Yo ka ?_)
 have hb:Below w.heap.size w (w.alloc (.cells (vs.flatMap Qu).toArray e)):=(Below.refl _ _).alloc (QD _) _
 refine hk _ len _ _ ?_ ((h.below hb).put hlt (.v _))
 exact h.fresh (tail:=[]) e len (Q71 hv) (by omega) _ hb (by rw[QR]; exact heap_alloc_new w _)
def app{α:Type}(bytes:Nat)(xs ys:List α):Option (List α):=if(xs.length+ys.length)*bytes≤140737488355328 then some (xs++ys)else none
theorem Qj0{α:Type}{bytes:Nat}{xs ys zs:List α}(h:app bytes xs ys=some zs):(xs.length+ys.length)*bytes≤140737488355328∧zs=xs++ys:=by
 unfold app at h
 split at h
 ·exact⟨by assumption,(Option.some.inj h).symm⟩
 ·cases h
theorem Lx:maxLen=9223372036854775807:=rfl
theorem Qj1(t ty e:TypeId)(i:TypeInfo)(ht:P.underlying t=some (.slice e))(hi:P.info? e=some i)
  (g sLen sCap:Nat) (cur:Array Value) (fz:Nat×Nat) (hg:w.heap[g]?=some (.cells cur e fz)) (yk:Qwo fz cur.size)
  (a:Addr) (m c:Nat) (news:List Value) (hl:news.length=m*i.size) (y8:∀j u,news[j]?=some u→w.cell? (a.add j)=some u) (h1:∀u∈news,u.oneCell'=true)
  (xj:sLen+m≤sCap) (ti:sLen*i.size+news.length≤cur.size) :
  (Builtin.append_ #[t,t] ty #[.slice (some ⟨g,0,none⟩) sLen sCap,.slice (some a) m c]).run P w =
   .ok (.slice (some ⟨g,0,none⟩) (sLen+m) sCap) (w.setRow g (cur.toList.take (sLen*i.size)++news++cur.toList.drop (sLen*i.size+news.length)).toArray):=by
 have hf:=run_firstCells_some (P:=P) w i.size m a m c news hl y8
 have zg:=Uz P g (sLen*i.size) e fz news 0 cur w hg yk (by simpa using ti) h1
 simp only[ZD]at zg
 simp[Builtin.append_,run_underlying ht,Go.sizeOf,typeInfo,hi,Builtin.lenOf,xj,hf,Addr.add_lit,zg]
theorem Qci(t u ty e:TypeId)(i:TypeInfo)(ht:P.underlying t=some (.slice e))(hu:P.underlying u=some .string)(hi:P.info? e=some i)(ua:i.size=1)
  (g sLen sCap:Nat) (cur:Array Value) (fz:Nat×Nat) (hg:w.heap[g]?=some (.cells cur e fz)) (yk:Qwo fz cur.size) (s:ByteArray)
  (xj:sLen+s.size≤sCap) (ti:sLen+s.size≤cur.size) :
  (Builtin.append_ #[t,u] ty #[.slice (some ⟨g,0,none⟩) sLen sCap,.string s]).run P w =
   .ok (.slice (some ⟨g,0,none⟩) (sLen+s.size) sCap) (w.setRow g (cur.toList.take sLen++strCells s++cur.toList.drop (sLen+s.size)).toArray):=by
 have hf:=run_firstCells_string (P:=P) w 1 s
 have zg:=Uz P g sLen e fz (strCells s) 0 cur w hg yk (by simpa[strCells_length]using ti) (strCells_oneCell s)
 simp only[ZD,strCells_length]at zg
 simp[Builtin.append_,run_underlying ht,run_underlying hu,Go.sizeOf,typeInfo,hi,ua,Builtin.lenOf,xj,hf,Addr.add_lit,zg]
theorem Qcj{base:Nat}{t u ty e:TypeId}{i:TypeInfo}(ht:P.underlying t=some (.slice e))(hu:P.underlying u=some .string)(hi:P.info? e=some i)(hz:i.zero=some (.int .u8 0))
  (xp:i.size=1) (y9:i.bytes=1) {v:Value} {n:Nat} {xs:List Value} (kb:w.ownsRowS base e 1 v n xs) (s:ByteArray) (zh:n+s.size≤140737488355328) (uu:base≤w.heap.size) :
  ∃v' w',(Builtin.append_ #[t,u] ty #[v,.string s]).run P w=.ok v' w'∧w'.ownsRowS base e 1 v' (n+s.size) (xs++strCells s)∧w.grownBy w' v.ownBlock ∧
   ((v'.ownBlock=v.ownBlock)∨(v'.ownBlock=some w.heap.size∧Below w.heap.size w w')):=by
 have h63:n+s.size≤maxLen:=by rw[Lx]; omega
 have xn:xs.length=n:=by simpa using kb.1
 have hlen:(xs++strCells s).length=(n+s.size)*1:=by rw[QI,xn,strCells_length,KD]
 have grown:∀(old:Nat),old<n+s.size →
   (w.drew.alloc (.cells (xs.toArray++(strCells s).toArray++Builtin.zeroCells (Value.int .u8 0).cells (grownCap w (n+s.size) old e - (n+s.size))) e)).ownsRowS base e 1
    (.slice (some ⟨w.heap.size,0,none⟩) (n+s.size) (grownCap w (n+s.size) old e)) (n+s.size) (xs++strCells s) ∧
   Below w.heap.size w (w.drew.alloc (.cells (xs.toArray++(strCells s).toArray++Builtin.zeroCells (Value.int .u8 0).cells (grownCap w (n+s.size) old e - (n+s.size))) e)):=by
  intro old ho
  have wx:=grownCap_ge w (n+s.size) old e
  have xh:grownCap w (n+s.size) old e≤maxLen:=grownCap_le_maxLen w (n+s.size) old e h63
  refine⟨⟨hlen,.inr ⟨w.heap.size,_,_,(0,0),rfl,uu,heap_alloc_new w.drew _,.inl rfl,wx,xh,?_,?_⟩⟩,((Below.refl _ _).drew.alloc (QD _) _)⟩
  ·refine KK (Eq.symm ?_)
   simp only[KV,XW,size_zeroCells,xn,strCells_length]
   simp[Value.cells]
   omega
  ·simp only[KP,QH]
   rw[←QH,←hlen]
   exact ZZ
 rcases kb.2 with⟨rfl,rfl⟩ | ⟨g,cap,cur,fz,rfl,nr,hg,yk,ma,xh,zr,uq⟩
 ·have nt:xs=[]:=JX xn
  subst nt
  by_cases z6:s.size=0
  ·refine⟨.slice none 0 0,w,?_,⟨hlen,.inl ⟨rfl,by omega⟩⟩,⟨rfl,rfl,rfl,QD _,fun _ _ _=>rfl⟩,.inl rfl⟩
   simp[Builtin.append_,run_underlying ht,run_underlying hu,Go.sizeOf,typeInfo,hi,Builtin.lenOf,z6,Builtin.firstCells]
  ·have hr:=run_append_nil_string (P:=P) w t u ty e i (.int .u8 0) ht hu hi hz s (by omega) (by omega) (by rw[y9]; omega)
   have e0:s.data.map (fun b=>Value.int .u8 (b.toNat:Int))=(strCells s).toArray:=by apply Array.ext'; simp[strCells]
   rw[e0]at hr
   obtain⟨g1,g2⟩:=grown 0 (by omega)
   simp only[QE,QC,Array.empty_append]at g1 g2 ⊢
   exact⟨_,_,hr,g1,⟨g2.os,g2.tape,g2.output,g2.size,fun b hb _=>g2.block b hb⟩,.inr ⟨rfl,g2⟩⟩
 ·by_cases xj:n+s.size≤cap
  ·have bj:cap≤cur.size:=by simpa using zr
   have hr:=Qci (P:=P) (w:=w) t u ty e i ht hu hi xp g n cap cur fz hg yk s xj (by omega)
   have ko:(cur.toList.take n++strCells s++cur.toList.drop (n+s.size)).toArray.size=cur.size:=by
    simp only[XW,QI,QO,JV,XR,strCells_length]; omega
   refine⟨_,_,hr,⟨hlen,.inr ⟨g,cap,_,fz,rfl,nr,setRow_heap w g cur _ e _ hg,by rw[ko]; exact yk,xj,xh,by rw[ko]; exact zr,?_⟩⟩,⟨rfl,rfl,rfl,by simp,fun b _ hb=>setRow_other w g b _ (fun e=>hb (by simp[Value.ownBlock,e]))⟩,.inl rfl⟩
   have zb:cur.toList.take n=xs:=by simpa using uq
   rw[zb,←hlen]
   exact ZZ
  ·have holds:∀j u,xs[j]?=some u→w.cell? ((⟨g,0,none⟩:Addr).add j)=some u:=kb.cells (g:=g) rfl
   have hr:=run_append_grow_string (P:=P) w t u ty e i (.int .u8 0) ht hu hi hz ⟨g,0,none⟩ n cap xs (by rw[xp]; simpa using xn) holds s (by omega) (by omega) (by rw[y9]; exact growslice_fits (by omega) (by omega))
   obtain⟨g1,g2⟩:=grown cap (by omega)
   exact⟨_,_,hr,g1,⟨g2.os,g2.tape,g2.output,g2.size,fun b hb _=>g2.block b hb⟩,.inr ⟨rfl,g2⟩⟩
theorem Qgg(hT:Q4 P T){base:Nat}{t ty e:TypeId}{te ee:TE}(ht:Qh T t=some te)(kr:te.d=.slice e)(he:Qh T e=some ee)
  (hz:(Qu ee.z).length=ee.size) (ko:0<ee.size) (y9:0<ee.bytes) {v:Value} {m:Nat} {xs:List Value} (kb:w.ownsRowS base e ee.size v m xs) (uu:base≤w.heap.size)
  {A:Option Addr} {k c:Nat} {news:List Value} (hl:news.length=k*ee.size) (hA:A=none→k=0) (y8:∀ad,A=some ad→∀j u,news[j]?=some u→w.cell? (ad.add j)=some u)
  (h1:∀u∈news,u.oneCell'=true) (zh:(m+k)*ee.bytes≤140737488355328) :
  ∃v' w',(Builtin.append_ ⟨[t,t]⟩ ty ⟨[v,.slice A k c]⟩).run P w=.ok v' w'∧w'.ownsRowS base e ee.size v' (m+k) (xs++news)∧w.grownBy w' v.ownBlock ∧
   ((v'.ownBlock=v.ownBlock)∨(v'.ownBlock=some w.heap.size∧Below w.heap.size w w')):=by
 have hu:P.underlying t=some (.slice e):=by rw[(Jm hT ht).2,kr]
 obtain⟨i,hi,tj,ui,yo⟩:=W7 hT he
 have xf:ee.z.cells.size=ee.size:=by rw[←hz,Vp]; simp
 have nu:m+k≤140737488355328:=QN (KX _ y9) zh
 rw[←ui]at hl kb ko xf ⊢
 rw[←yo]at zh
 have hlen:(xs++news).length=(m+k)*i.size:=by rw[QI,kb.1,hl,QP]
 cases A with
 | none =>
  have hk:=hA rfl
  subst hk
  have hn:news=[]:=JX (by simpa using hl)
  subst hn
  refine⟨v,w,?_,by simpa using kb,⟨rfl,rfl,rfl,QD _,fun _ _ _=>rfl⟩,.inl rfl⟩
  rcases kb.2 with⟨rfl,rfl⟩ | ⟨g,cap,cur,fz,rfl,_,_,_,ma,_⟩
  ·simp[Builtin.append_,run_underlying hu,Go.sizeOf,typeInfo,hi,Builtin.lenOf,Builtin.firstCells]
  ·simp[Builtin.append_,run_underlying hu,Go.sizeOf,typeInfo,hi,Builtin.lenOf,Builtin.firstCells,ma,storeCells]
 | some ad =>
  have hn:=y8 ad rfl
  have grown:∀old:Nat,old<m+k →
    (w.drew.alloc (.cells (xs.toArray++news.toArray++Builtin.zeroCells ee.z.cells (grownCap w (m+k) old e - (m+k))) e)).ownsRowS base e i.size
     (.slice (some ⟨w.heap.size,0,none⟩) (m+k) (grownCap w (m+k) old e)) (m+k) (xs++news) ∧
    Below w.heap.size w (w.drew.alloc (.cells (xs.toArray++news.toArray++Builtin.zeroCells ee.z.cells (grownCap w (m+k) old e - (m+k))) e)):=by
   intro old ho
   have wx:=grownCap_ge w (m+k) old e
   have xh:grownCap w (m+k) old e≤maxLen:=grownCap_le_maxLen w (m+k) old e (by rw[Lx]; omega)
   refine⟨⟨hlen,.inr ⟨w.heap.size,_,_,(0,0),rfl,uu,heap_alloc_new w.drew _,.inl rfl,wx,xh,?_,?_⟩⟩,((Below.refl _ _).drew.alloc (QD _) _)⟩
   ·refine KK (Eq.symm ?_)
    simp only[KV,XW,size_zeroCells,xf,kb.1,hl,←QP]
    congr 1; omega
   ·simp only[KP,QH]
    rw[←QH,←hlen]
    exact ZZ
  rcases kb.2 with⟨rfl,rfl⟩ | ⟨g,cap,cur,fz,rfl,nr,hg,yk,ma,xh,zr,uq⟩
  ·have hx:xs=[]:=JX (by simpa using kb.1)
   subst hx
   by_cases ql:k=0
   ·subst ql
    have qm:news=[]:=JX (by simpa using hl)
    subst qm
    refine⟨.slice none 0 0,w,?_,World.ownsRowS_nil w base e i.size,⟨rfl,rfl,rfl,QD _,fun _ _ _=>rfl⟩,.inl rfl⟩
    simp[Builtin.append_,run_underlying hu,Go.sizeOf,typeInfo,hi,Builtin.lenOf,Builtin.firstCells,loadCells,loadCellsFrom]
   ·have hr:=run_append_nil (P:=P) w t ty e i ee.z hu hi tj ad k c news hl hn (by omega) (by omega) (by have hb:=zh; simp only[QE]at hb; omega)
    obtain⟨g1,g2⟩:=grown 0 (by omega)
    simp only[QE,QC,Array.empty_append]at g1 g2 ⊢
    exact⟨_,_,hr,g1,⟨g2.os,g2.tape,g2.output,g2.size,fun b hb _=>g2.block b hb⟩,.inr ⟨rfl,g2⟩⟩
  ·by_cases xj:m+k≤cap
   ·have ti:m*i.size+news.length≤cur.size:=by rw[hl,←QP]; exact QN (JG _ xj) zr
    have hr:=Qj1 (P:=P) (w:=w) t ty e i hu hi g m cap cur fz hg yk ad k c news hl hn h1 xj ti
    have bk:(cur.toList.take (m*i.size)++news++cur.toList.drop (m*i.size+news.length)).toArray.size=cur.size:=by
     simp only[XW,QI,QO,JV,XR]; omega
    refine⟨_,_,hr,⟨hlen,.inr ⟨g,cap,_,fz,rfl,nr,setRow_heap w g cur _ e _ hg,by rw[bk]; exact yk,xj,xh,by rw[bk]; exact zr,?_⟩⟩,⟨rfl,rfl,rfl,by simp,fun b _ hb=>setRow_other w g b _ (fun e=>hb (by simp[Value.ownBlock,e]))⟩,.inl rfl⟩
    rw[uq,←hlen]
    exact ZZ
   ·have holds:∀j u,xs[j]?=some u→w.cell? ((⟨g,0,none⟩:Addr).add j)=some u:=kb.cells (g:=g) rfl
    have hr:=run_append_grow (P:=P) w t ty e i ee.z hu hi tj ⟨g,0,none⟩ m cap xs kb.1 holds ad k c news hl hn (by omega) (by omega) (growslice_fits (by omega) zh)
    obtain⟨g1,g2⟩:=grown cap (by omega)
    exact⟨_,_,hr,g1,⟨g2.os,g2.tape,g2.output,g2.size,fun b hb _=>g2.block b hb⟩,.inr ⟨rfl,g2⟩⟩
end
end Gd

/- The step of append; parts of slices and strings; conversions. -/
namespace Gd
open Go Go.RowKit
set_option linter.unusedVariables false
set_option linter.unusedSimpArgs false
section
variable {P:Program} {T:Tab} {β:Nat→Nat} {X:Cx} {G:GL} {D:List DF} {H:HL} {O:List TL} {a:Act} {w w':World}
variable {ops:Array Oper} {Q:Exit→Act→World→Prop} {rest:List Oper}
theorem Qz3{τ:Type}{r:RT τ}{ok:Ok}{w:World}{b o:Nat}:∀(xs:List τ) (k:Nat),
  (∀i x,xs[i]?=some x→∃cs,r.rep ok w x cs∧Cz ok w b (o+(k+i)*r.size) cs) →
  ∃cs:List Value,cs.length=xs.length*r.size∧(∀c∈cs,c.oneCell'=true)∧(∀(j:Nat) u,cs[j]?=some u→ok b (o+k*r.size+j)∧w.cell? ⟨b,o+k*r.size+j,none⟩=some u) ∧
   ∀i x,xs[i]?=some x→∃ds,r.rep ok w x ds∧∀(j:Nat) u,ds[j]?=some u→cs[i*r.size+j]?=some u
 | [],k,_=>⟨[],by simp,by simp,by simp,by simp⟩
 | x::xs,k,h=>by
  obtain⟨d0,jz,uj⟩:=h 0 x rfl
  obtain⟨cs,hl,h1,hc,hi⟩:=Qz3 xs (k+1) (fun i y hy=>by
   have:=h (i+1) y (by simpa using hy)
   rw[show k+(i+1)=k+1+i from by omega]at this
   exact this)
  have vi:=r.len jz
  refine⟨d0++cs,by simp[hl,vi,QP]; omega,?_,?_,?_⟩
  ·intro c xh
   rcases QW.1 xh with xh | xh
   ·exact r.flat jz c xh
   ·exact h1 c xh
  ·intro j u hu
   by_cases hj:j<d0.length
   ·rw[JF hj]at hu
    have:=uj j u hu
    simpa using this
   ·rw[JE (by omega)]at hu
    have:=hc _ u hu
    rw[vi]at this
    have e:o+(k+1)*r.size+(j - r.size)=o+k*r.size+j:=by rw[QP]; omega
    rw[e]at this
    exact this
  ·intro i y hy
   cases i with
   | zero =>
    simp at hy; subst hy
    refine⟨d0,jz,fun j u hu=>?_⟩
    have hj:=(QK.1 hu).1
    rw[XB,QE,JF hj]; exact hu
   | succ i =>
    obtain⟨ds,hr,hd⟩:=hi i y (by simpa using hy)
    refine⟨ds,hr,fun j u hu=>?_⟩
    rw[JE (by rw[vi,QP]; omega),vi]
    have e:(i+1)*r.size+j - r.size=i*r.size+j:=by rw[QP]; omega
    rw[e]
    exact hd j u hu
theorem N1{τ:Type}{r:RT τ}{ok:Ok}{xs:List τ}{A:Option Addr}{m c:Nat}(h:Qzt r ok w xs (.slice A m c)) :
  ∃cs:List Value,cs.length=m*r.size∧xs.length=m∧m≤c∧(A=none→m=0)∧(∀c∈cs,c.oneCell'=true) ∧
   (0<m→∃b o,A=some ⟨b,o,none⟩∧∀(j:Nat) u,cs[j]?=some u→ok b (o+j)∧w.cell? ⟨b,o+j,none⟩=some u) ∧
   ∀i x,xs[i]?=some x→∃ds,r.rep ok w x ds∧∀(j:Nat) u,ds[j]?=some u→cs[i*r.size+j]?=some u:=by
 obtain⟨A',m',c',hv,hl,hc,hn⟩:=h
 injection hv with e1 e2 e3
 subst e1; subst e2; subst e3
 rcases XJ m with h0 | h0
 ·have hx:xs=[]:=JX (by omega)
  subst hx
  exact⟨[],by simp[h0],hl,hc,fun _=>h0,by simp,fun h=>absurd h (by omega),by simp⟩
 ·obtain⟨b,o,rfl,hx⟩:=hn h0
  obtain⟨cs,xl,h1,yg,hi⟩:=Qz3 (r:=r) (ok:=ok) (w:=w) (b:=b) (o:=o) xs 0 (fun i x wz=>by rw[QE]; exact hx i x wz)
  refine⟨cs,by rw[xl,hl],hl,hc,fun e=>by simp at e,h1,fun _=>⟨b,o,rfl,fun j u hu=>?_⟩,hi⟩
  have:=yg j u hu
  simpa using this
def Qz4{τ:Type}(r:RT τ)(ok:Ok)(w:World)(xs:List τ)(A:Option Addr)(m c:Nat):Prop :=
 ∃cs:List Value,cs.length=m*r.size∧xs.length=m∧m≤c∧(A=none→m=0)∧(∀c∈cs,c.oneCell'=true) ∧
  (0<m→∃b o,A=some ⟨b,o,none⟩∧∀(j:Nat) u,cs[j]?=some u→w.cell? ⟨b,o+j,none⟩=some u) ∧
  ∀i x,xs[i]?=some x→∃ds,r.rep ok w x ds∧∀(j:Nat) u,ds[j]?=some u→cs[i*r.size+j]?=some u
theorem Q72{τ:Type}{r:RT τ}{ok:Ok}{xs:List τ}{A:Option Addr}{m c:Nat}(h:isV (rSl r) ok w xs (.slice A m c)):Qz4 r ok w xs A m c:=by
 obtain⟨cs,h1,h2,h3,h4,h5,h6,h7⟩:=N1 (Z5.1 h)
 exact⟨cs,h1,h2,h3,h4,h5,fun hm=>let⟨b,o,e,hc⟩:=h6 hm; ⟨b,o,e,fun j u hu=>(hc j u hu).2⟩,h7⟩
theorem Qz4.weak{τ:Type}{r:RT τ}{ok ok':Ok}{xs:List τ}{A:Option Addr}{m c:Nat}(h:Qz4 r ok w xs A m c)(hk:∀b o,ok b o→ok' b o):Qz4 r ok' w xs A m c:=by
 obtain⟨cs,h1,h2,h3,h4,h5,h6,h7⟩:=h
 exact⟨cs,h1,h2,h3,h4,h5,h6,fun i x hx=>let⟨ds,q1,q2⟩:=h7 i x hx; ⟨ds,r.weak q1 hk,q2⟩⟩
theorem Ft(A:Option Addr)(n n' c c':Nat):(Value.slice A n c).ownBlock=(Value.slice A n' c').ownBlock:=by cases A<;>rfl
theorem Hy(b o j:Nat):(⟨b,o,none⟩:Addr).add j=⟨b,o+j,none⟩:=Addr.add_lit b o j
theorem Qz5(hT:Q4 P T)(h:Sb β X G D H O a w)(kx ky:Nat)(O1 O2:List TL){t:TypeId}{s x:Operand}{d:Nat}{ps:String}{af:Array Edge}{ty:TypeId}{gd:Option (Nat×Bool)}
  (hg:B4 ops G ⟨some d,.call ⟨.builtin .append,⟨[s,x]⟩,⟨[t,t]⟩⟩,ty,ps,af,gd⟩=some true) (hlt:okD X d=true)
  {τ:Type} {r:RT τ} {xs ys zs:List τ} {A:Option Addr} {A2:Option Addr} {m c m2 c2:Nat} {e:TypeId} {te ee:TE} (ht:Qh T t=some te) (kr:te.d=.slice e) (he:Qh T e=some ee) (hs:ee.size=r.size)
  (hz:Nat.beq (Qu ee.z).length ee.size=true) (ko:Nat.ble 1 ee.size=true) (y9:Nat.ble 1 ee.bytes=true)
  (hO:O=O1++tl (.slice A m c) e ee.size::O2) (ua:gv G s=some (.v (.slice A m c))) (vj:gv G x=some (.v (.slice A2 m2 c2)))
  (hDx:D[kx]?=some (DF.v (rSl r) xs (.slice A m c))) (hDy:isV (rSl r) (Jf X.ok X.w.heap.size β H O w) w ys (.slice A2 m2 c2)) (zu:app ee.bytes xs ys=some zs)
  (hk:∀A' c' a' w',isV (rSl r) (Jf X.ok X.w.heap.size β H (O1++tl (.slice A' zs.length c') e ee.size::O2) w') w' zs (.slice A' zs.length c') →
   Sb β X (Tl G d (.v (.slice A' zs.length c'))) D H (O1++tl (.slice A' zs.length c') e ee.size::O2) a' w'→wpList P ops Q rest a' w') :
  wpList P ops Q (⟨some d,.call ⟨.builtin .append,⟨[s,x]⟩,⟨[t,t]⟩⟩,ty,ps,af,gd⟩::rest) a w:=by
 subst hO
 obtain⟨zh,rfl⟩:=Qj0 zu
 have ke:(tl (.slice A m c) e ee.size:TL)∈O1++tl (.slice A m c) e ee.size::O2:=by simp
 obtain⟨xs0,kb⟩:=(h.own _ ke).1
 have zd:∀g,(Value.slice A m c).ownBlock=some g→X.mine g:=(h.own _ ke).2
 have hvx:=Z5.1 (h.d kx hDx)
 obtain⟨csx,hcx1,xn,hmc,hA,hcx2,hcx3,hcx4⟩:=N1 hvx
 obtain⟨csy,va,vk,bm,hA2,qp,qq,qs⟩:=N1 (Z5.1 hDy)
 have xi:=QJ hz
 have tn:0<ee.size:=QF ko
 have tq:0<ee.bytes:=QF y9
 have y8:∀ad,A2=some ad→∀j u,csy[j]?=some u→w.cell? (ad.add j)=some u:=by
  intro ad vl j u hu
  have hj:=(QK.1 hu).1
  have uk:0<m2:=by
   rcases XJ m2 with h0 | h0
   ·rw[h0,XB]at va; omega
   ·exact h0
  obtain⟨b,o,hA',hc⟩:=qq uk
  rw[hA']at vl
  injection vl with vl
  subst vl
  rw[Hy]
  exact(hc j u hu).2
 simp only[Zv]at kb
 obtain⟨v',w1,ka,zm,kp,hblk⟩:=Qgg (P:=P) (w:=w) (ty:=ty) hT ht kr he xi tn tq kb (JB _) (k:=m2) (c:=c2) (A:=A2) (news:=csy) (by rw[hs]; exact va) hA2 y8 qp (by rw[←xn,←vk]; exact zh)
 have z8:(execOp a.eval ⟨some d,.call ⟨.builtin .append,⟨[s,x]⟩,⟨[t,t]⟩⟩,ty,ps,af,gd⟩).run P w=.ok (.value v') w1:=by
  unfold execOp
  have hm:(Array.mk [s,x]).map a.eval=⟨[.slice A m c,.slice A2 m2 c2]⟩:=by simp[h.ev ua,h.ev vj,Is]
  simp[resolve,hm,invoke,builtin,ka]
 have qt:xs0.length=m*ee.size:=kb.1
 have xa:∃A' c',v'=.slice A' (m+m2) c'∧m+m2≤c'∧(0<m+m2→∃g,A'=some ⟨g,0,none⟩):=by
  rcases zm.2 with⟨rfl,h0⟩ | ⟨g,cap,cur,fz,rfl,_,_,_,hle,_⟩
  ·exact⟨none,0,by rw[h0],by omega,fun h=>by omega⟩
  ·exact⟨_,cap,rfl,hle,fun _=>⟨g,rfl⟩⟩
 obtain⟨A',c',rfl,yp,hA'⟩:=xa
 have hlen:(xs++ys).length=m+m2:=by rw[QI,xn,vk]
 have bn:∀g,(Value.slice A' (m+m2) c').ownBlock=some g→∀(j:Nat) u,(xs0++csy)[j]?=some u→w1.cell? ⟨g,j,none⟩=some u:=by
  intro g hg j u hu
  have:=zm.cells hg j u hu
  rwa[Hy,QE]at this
 have l5:∀g,(Value.slice A m c).ownBlock=some g→∀(j:Nat) u,xs0[j]?=some u→w.cell? ⟨g,j,none⟩=some u:=by
  intro g hg j u hu
  have:=kb.cells hg j u hu
  rwa[Hy,QE]at this
 have hlt1:=zm.lt
 have hlt0:=kb.lt
 have qu:∀g,(Value.slice A' (m+m2) c').ownBlock=some g→X.mine g:=by
  intro g hg
  rcases hblk with zw | ⟨zw,_⟩
  ·exact zd g (by rw[←zw]; exact hg)
  ·rw[zw]at hg; injection hg with hg; subst hg; exact .inl h.bel.size
 have kq:Evo (Jf X.ok X.w.heap.size β H (O1++tl (.slice A m c) e ee.size::O2) w) w w1:=by
  refine⟨kp.size,fun b o hk=>?_,fun b es cl hk uv=>?_⟩
  rotate_left
  ·have nr:some b≠(Value.slice A m c).ownBlock:=by
    intro he
    rcases kb.2 with⟨xq,_⟩ | ⟨g,cap,cur,fz,xq,_,hh,_⟩
    ·rw[xq]at he; simp[Value.ownBlock]at he
    ·rw[xq]at he; simp only[Value.ownBlock,Option.some.injEq]at he; subst he; rw[uv]at hh; cases hh
   rw[kp.block b hk.2.1 nr]; exact uv
  obtain⟨_,h2,_,h4⟩:=hk
  by_cases nr:some b=(Value.slice A m c).ownBlock
  ·rcases hblk with zw | ⟨zw,zo⟩
   ·have ma:=h4 _ ke
    simp only[tl,Zv,not_and,Nat.not_le]at ma
    have ho:o<m*ee.size:=ma nr.symm
    have hu:∃u,xs0[o]?=some u:=⟨xs0[o]'(by omega),QU (by omega)⟩
    obtain⟨u,hu⟩:=hu
    rw[l5 b nr.symm o u hu,bn b (by rw[zw,←nr]) o u (by rw[JF (by omega)]; exact hu)]
   ·exact zo.cell (p:=⟨b,o,none⟩) h2
  ·exact World.cell?_of_block (w:=w) (kp.block b h2 nr)
 have kj:∀b o,Jf X.ok X.w.heap.size β H (O1++tl (.slice A m c) e ee.size::O2) w b o→Jf X.ok X.w.heap.size β H (O1++tl (.slice A' (xs++ys).length c') e ee.size::O2) w1 b o:=by
  rintro b o ⟨h1,h2,h3,h4⟩
  refine⟨h1,JU h2 kp.size,h3,fun t ht y7=>?_⟩
  rcases QW.1 ht with ht | ht
  ·exact h4 t (by simp[ht]) y7
  ·rcases QX.1 ht with rfl | ht
   ·obtain⟨c1,c2⟩:=y7
    simp only[Zv,hlen]at c1 c2
    rcases hblk with zw | ⟨zw,_⟩
    ·have ma:=h4 _ ke
     simp only[tl,Zv,not_and,Nat.not_le]at ma
     have:=ma (by rw[←zw]; exact c1)
     rw[QP]at c2
     omega
    ·have e1:(Value.slice A' (m+m2) c').ownBlock=some b:=c1
     rw[zw]at e1
     injection e1 with e1
     omega
   ·exact h4 t (by simp[ht]) y7
 have yq:∀t∈O1++O2,∀g,t.blks g→some g≠(Value.slice A m c).ownBlock∧g<w.heap.size:=by
  intro t ht g hg
  refine⟨fun e1=>?_,h.olt (by rcases QW.1 ht with ht | ht<;>simp[ht]) hg⟩
  have hp:=QM.1 h.dOO
  rcases QW.1 ht with ht | ht
  ·exact hp.2.2 t ht _ (.head _) g hg e1.symm
  ·have sx:=QG.1 hp.2.1
   exact sx.1 t ht g e1.symm hg
 have hSb:Sb β X G D H (O1++tl (.slice A' (xs++ys).length c') e ee.size::O2) a w1:=by
  refine { sz:=h.sz,df:=h.df,fr:=h.fr,pn:=h.pn,tm:=h.tm,bel:=?_,dat:=(h.dat.evo kq).weak kj,obj:=?_,own:=?_,dHH:=h.dHH,dHO:=?_,dOO:=?_ }
  ·exact h.bel.trans ⟨kp.os,kp.tape,kp.output,kp.size,fun k hk hn=>kp.block k (JU hk h.bel.size) (fun e1=>by exact(zd k e1.symm).elim (fun h=>by omega) hn)⟩
  ·intro p hp
   have hpb:=Yi (h.obj p hp).1
   refine⟨?_,(h.obj p hp).2⟩
   rw[kp.block _ hpb (fun e1=>h.dHO p hp _ ke e1.symm)]
   exact(h.obj p hp).1
  ·intro t ht
   rcases QW.1 ht with zb | zb
   ·exact⟨t.weak (t.keep (h.own t (by simp[zb])).1 (fun g hg=>kp.block g (yq t (by simp[zb]) g hg).2 (yq t (by simp[zb]) g hg).1) kq) kj,(h.own t (by simp[zb])).2⟩
   ·rcases QX.1 zb with rfl | zb
    ·refine⟨⟨xs0++csy,?_⟩,fun g hg=>qu g ((Ft A' (m+m2) (xs++ys).length c' c').trans hg)⟩
     simp only[Zv,hlen]
     exact zm
    ·exact⟨t.weak (t.keep (h.own t (by simp[zb])).1 (fun g hg=>kp.block g (yq t (by simp[zb]) g hg).2 (yq t (by simp[zb]) g hg).1) kq) kj,(h.own t (by simp[zb])).2⟩
  ·intro p hp t ht
   have hpb:=Yi (h.obj p hp).1
   rcases QW.1 ht with zb | zb
   ·exact h.dHO p hp t (by simp[zb])
   ·rcases QX.1 zb with rfl | zb
    ·intro e1
     have e2:(Value.slice A' (m+m2) c').ownBlock=some (β p.1):=(Ft A' (m+m2) (xs++ys).length c' c').trans e1
     rcases hblk with zw | ⟨zw,_⟩
     ·rw[zw]at e2; exact h.dHO p hp _ ke e2
     ·rw[zw]at e2; injection e2 with e2; omega
    ·exact h.dHO p hp t (by simp[zb])
  ·have hp:=QM.1 h.dOO
   have sx:=QG.1 hp.2.1
   have tr:∀t∈O1++O2,∀g,t.blks g→(Value.slice A' (m+m2) c').ownBlock≠some g:=by
    intro t ht g hg e2
    have:=yq t ht g hg
    rcases hblk with zw | ⟨zw,_⟩
    ·exact this.1 (by rw[←zw]; exact e2.symm)
    ·rw[zw]at e2; injection e2 with e2; omega
   refine QM.2 ⟨hp.1,QG.2 ⟨fun t ht g hg zt=>tr t (by simp[ht]) g zt ((Ft A' (m+m2) (xs++ys).length c' c').trans hg),sx.2⟩,?_⟩
   intro t ht u hu g hg
   rcases QX.1 hu with rfl | hu
   ·exact fun zt=>tr t (by simp[ht]) g hg ((Ft A' (m+m2) (xs++ys).length c' c').trans zt)
   ·exact hp.2.2 t ht u (.tail _ hu) g hg
 have bo:isV (rSl r) (Jf X.ok X.w.heap.size β H (O1++tl (.slice A' (xs++ys).length c') e ee.size::O2) w1) w1 (xs++ys) (.slice A' (xs++ys).length c'):=by
  refine Z5.2 ⟨_,_,_,rfl,rfl,by omega,fun zq=>?_⟩
  obtain⟨g,rfl⟩:=hA' (by omega)
  refine⟨g,0,rfl,fun i x hx=>?_⟩
  have tt:(Value.slice (some ⟨g,0,none⟩) (m+m2) c').ownBlock=some g:=rfl
  have uu:=hlt1 g tt
  have xb:∀(j:Nat) u,(xs0++csy)[j]?=some u→j<(m+m2)*ee.size→Jf X.ok X.w.heap.size β H (O1++tl (.slice (some ⟨g,0,none⟩) (xs++ys).length c') e ee.size::O2) w1 g j∧w1.cell? ⟨g,j,none⟩=some u:=by
   intro j u hu hj
   refine⟨⟨X.mine_ok (qu g tt) j,uu.2,fun p hp e1=>?_,fun t ht y7=>?_⟩,bn g tt j u hu⟩
   ·have hpb:=Yi (h.obj p hp).1
    rcases hblk with zw | ⟨zw,_⟩
    ·exact h.dHO p hp _ ke (by show(Value.slice A m c).ownBlock=some (β p.1); rw[←zw,e1]; exact tt)
    ·rw[tt]at zw; injection zw with zw; omega
   ·rcases QW.1 ht with zb | zb
    ·have:=yq t (by simp[zb]) g (t.cb y7)
     rcases hblk with zw | ⟨zw,_⟩
     ·exact this.1 (by rw[←zw]; exact tt.symm)
     ·rw[tt]at zw; injection zw with zw; omega
    ·rcases QX.1 zb with rfl | zb
     ·have c2:=y7.2
      simp only[Zv,hlen]at c2
      omega
     ·have:=yq t (by simp[zb]) g (t.cb y7)
      rcases hblk with zw | ⟨zw,_⟩
      ·exact this.1 (by rw[←zw]; exact tt.symm)
      ·rw[tt]at zw; injection zw with zw; omega
  have wk:∀{x:τ} {ds:List Value},r.rep (Jf X.ok X.w.heap.size β H (O1++tl (.slice A m c) e ee.size::O2) w) w x ds →
    r.rep (Jf X.ok X.w.heap.size β H (O1++tl (.slice (some ⟨g,0,none⟩) (xs++ys).length c') e ee.size::O2) w1) w1 x ds:=fun hr=>r.weak (r.evo hr kq) kj
  by_cases hi:i<m
  ·rw[JF (by omega)]at hx
   obtain⟨ds,hr,hd⟩:=hcx4 i x hx
   refine⟨ds,wk hr,fun j u hu=>?_⟩
   have hj:j<r.size:=by have:=(QK.1 hu).1; rw[r.len hr]at this; exact this
   have hcu:=hd j u hu
   have mb:i*r.size+j<m*r.size:=by
    have:(i+1)*r.size≤m*r.size:=JG _ hi
    rw[QP]at this; omega
   obtain⟨b',o',hA0,uj⟩:=hcx3 (by omega)
   have xr:b'=g∨True:=.inr trivial
   have wt:xs0[i*r.size+j]?=some u:=by
    rcases kb.2 with⟨xq,h0⟩ | ⟨g0,cap,cur,fz0,xq,_,_,_⟩
    ·omega
    ·injection xq with xq
     rw[hA0]at xq
     injection xq with xq
     injection xq with ib ho0
     subst ib; subst ho0
     have h1:=(uj _ u hcu).2
     have h2:=l5 b' (by rw[hA0]; rfl) (i*r.size+j) (xs0[i*r.size+j]'(by rw[qt,hs]; exact mb)) (QU _)
     rw[QE]at h1
     rw[h1]at h2
     rw[QU (by rw[qt,hs]; exact mb)]
     exact h2.symm
   have:=xb (i*r.size+j) u (by rw[JF (by rw[qt,hs]; exact mb)]; exact wt) (by rw[hs,QP]; omega)
   rw[QE]
   exact this
  ·rw[JE (by omega),xn]at hx
   obtain⟨ds,hr,hd⟩:=qs (i - m) x hx
   refine⟨ds,wk hr,fun j u hu=>?_⟩
   have hj:j<r.size:=by have:=(QK.1 hu).1; rw[r.len hr]at this; exact this
   have hcu:=hd j u hu
   have nw:i - m<m2:=by
    have:=(QK.1 hx).1
    omega
   have mb:(i - m)*r.size+j<m2*r.size:=by
    have:(i - m+1)*r.size≤m2*r.size:=JG _ nw
    rw[QP]at this; omega
   have e1:i*r.size+j=m*r.size+((i - m)*r.size+j):=by
    rw[←ZG,←QP]; congr 2; omega
   have:=xb (i*r.size+j) u (by
    rw[JE (by rw[qt,hs,e1]; omega),qt,hs,e1,ZE]
    exact hcu) (by rw[hs,QP,e1]; omega)
   rw[QE]
   exact this
 refine Jl (Kj h hg) (Yo z8 ?_)
 have rm:=hSb.put hlt (.v (.slice A' (xs++ys).length c'))
 have:=hk A' c' _ w1 bo rm
 simp only[Is,hlen]at this
 exact this
end
end Gd

/- Parts of slices and strings; conversions; text put together. -/
namespace Gd
open Go Go.RowKit
set_option linter.unusedVariables false
set_option linter.unusedSimpArgs false
def slc{α:Type}(xs:List α)(lo hi:Int):Option (List α):=if 0≤lo∧lo≤hi∧hi≤(xs.length:Int)then some ((xs.drop lo.toNat).take (hi - lo).toNat)else none
theorem slc_ok{α:Type}{xs ys:List α}{lo hi:Int}(h:slc xs lo hi=some ys):0≤lo∧lo≤hi∧hi≤(xs.length:Int)∧ys=(xs.drop lo.toNat).take (hi - lo).toNat∧ys.length=(hi - lo).toNat:=by
 unfold slc at h
 split at h
 ·rename_i hc
  have:=(Option.some.inj h).symm
  refine⟨hc.1,hc.2.1,hc.2.2,this,?_⟩
  rw[this]; simp; omega
 ·cases h
def Jj4(a b:Str):Option Str:=if a.length+b.length≤9223372036854775807 then some (a++b)else none
def Qs1(xs:List Int):Str:=xs.map fun i=>UInt8.ofNat i.toNat
section
variable {P:Program} {T:Tab} {β:Nat→Nat} {X:Cx} {G:GL} {D:List DF} {H:HL} {O:List TL} {a:Act} {w w':World}
variable {ops:Array Oper} {Q:Exit→Act→World→Prop} {rest:List Oper}
theorem Qbc{k:IntKind}{i:Int}{y:Nat}{code:BoundsCode}(h0:0≤i)(h1:i≤y):(Instr.sliceBound (.int k i) y code).run P w=.ok i.toNat w:=by
 simp[Instr.sliceBound,asIntOf,h0,h1]
theorem Qpl(ns:List Int)(s:Str):ns.foldl (fun r n=>r.push (UInt8.ofNat n.toNat)) (ByteArray.mk s.toArray)=ByteArray.mk (s++Qs1 ns).toArray:=by
 induction ns generalizing s with
 | nil=>simp[Qs1]
 | cons x ns ih =>
  simp only[List.foldl_cons]
  have:(ByteArray.mk s.toArray).push (UInt8.ofNat x.toNat)=ByteArray.mk (s++[UInt8.ofNat x.toNat]).toArray:=by
   apply ByteArray.ext; simp[ByteArray.push]
  rw[this,ih]
  simp[Qs1]
end
end Gd

/- A region whose order is drawn: what each operation gives, whatever the order. -/
namespace Gd
open Go Go.RowKit
set_option linter.unusedVariables false
set_option linter.unusedSimpArgs false
structure FV where
 p:Ok→World→Value→Prop
 evo:∀{ok w w' v},p ok w v→Evo ok w w'→p ok w' v
 weak:∀{ok ok' w v},p ok w v→(∀b o,ok b o→ok' b o)→p ok' w v
def Q73(l:List Oper)(i j:Nat):Bool :=
 match l[i]? with
 | some o=>o.after.toList.any fun e=>Region.binds .any e&&Nat.beq e.on j
 | none=>false
def Fu(l:List Oper):Nat→Nat→Nat→Bool
 | 0,_,_=>false
 | f+1,i,j=>match l[i]? with
  | some o=>o.after.toList.any fun e=>Region.binds .any e&&(Nat.beq e.on j||Fu l f e.on j)
  | none=>false
def backB(l:List Oper):Bool:=l.zipIdx.all fun(o,i)=>o.after.toList.all fun e=>!Region.binds .any e||Nat.blt e.on i
def Qwt:List Nat→Bool
 | []=>true
 | d::ds=>Ql1 ds d&&Qwt ds
section
variable {P:Program} {T:Tab} {β:Nat→Nat} {X:Cx} {G:GL} {D:List DF} {H:HL} {O:List TL} {a:Act} {w w':World}
theorem Y3{α β:Type}{f f':α→Option β}:∀{l:List α},(∀j∈l,f' j=f j)→l.filterMap f'=l.filterMap f
 | [],_=>rfl
 | y::ys,h=>by
  simp only[XH,h y (.head _),Y3 fun j hj=>h j (.tail _ hj)]
theorem Qtx:∀{ds:List Nat},Qwt ds=true→ds.Nodup
 | [],_=>List.Pairwise.nil
 | d::ds,h=>by
  simp only[Qwt,QQ]at h
  exact List.Pairwise.cons (fun e he hd=>Qzw h.1 (hd▸he)) (Qtx h.2)
theorem Qj2{l:List Oper}{listed:Array Bool}{i:Nat}:i∈Region.ready .any ⟨l⟩ listed ↔
  i<l.length∧listed.getD i true=false∧∃o,l[i]?=some o∧∀e∈o.after.toList,Region.binds .any e=true→listed.getD e.on false=true:=by
 simp only[Region.ready,JJ,JT,XW]
 constructor
 ·rintro⟨h1,h2⟩
  simp only[QQ,XF]at h2
  refine⟨h1,h2.1,?_⟩
  have ho:(⟨l⟩:Array Oper)[i]?=some l[i]:=by simp[h1]
  rw[ho]at h2
  simp only[XG,ZF,KW]at h2
  refine⟨l[i],by simp[h1],fun e he hb=>?_⟩
  have:=h2.2 e (VS.1 he)
  simpa[hb]using this
 ·rintro⟨h1,h2,o,ho,h3⟩
  refine⟨h1,?_⟩
  have wm:(⟨l⟩:Array Oper)[i]?=some o:=by simpa using ho
  simp only[QQ,XF,h2,wm,XG,ZF,KW,true_and]
  intro e he
  cases hb:Region.binds .any e with
  | false=>rfl
  | true=>simpa using h3 e (VS.2 he) hb
def Qpm(l:List Oper)(E:Nat→Prop):Prop:=∀i o,E i→l[i]?=some o→∀e∈o.after.toList,Region.binds .any e=true→E e.on
theorem Rm{l:List Oper}{E:Nat→Prop}(hc:Qpm l E):∀(f i j:Nat),Fu l f i j=true→(∀o,l[i]?=some o→∀e∈o.after.toList,Region.binds .any e=true→E e.on)→E j
 | 0,_,_,h,_=>by simp[Fu]at h
 | f+1,i,j,h,hi=>by
  simp only[Fu]at h
  split at h
  ·rename_i o ho
   obtain⟨e,he,hb⟩:=List.any_eq_true.1 h
   simp only[QQ,JS]at hb
   have hE:=hi o ho e he hb.1
   rcases hb.2 with h1 | h1
   ·rw[←QJ h1]; exact hE
   ·exact Rm hc f e.on j h1 fun o' wm=>hc _ o' hE wm
  ·cases h
theorem Jj5{l:List Oper}{i:Nat}{o:Oper}(h:backB l=true)(ho:l[i]?=some o){e:Edge}(he:e∈o.after.toList)(hb:Region.binds .any e=true):e.on<i:=by
 have hm:(o,i)∈l.zipIdx:=by
  rw[List.mem_zipIdx_iff_getElem?]; simpa using ho
 have:=JN.1 h _ hm
 have:=JN.1 this e he
 simp only[hb,VG,KC]at this
 exact Nat.lt_of_succ_le (QF this)
theorem Q5n{l:List Oper}{listed:Array Bool}(hs:listed.size=l.length)(hb:backB l=true)(hr:Region.ready .any ⟨l⟩ listed=[]):∀i,i<l.length→listed.getD i false=true:=by
 intro i
 induction i using Nat.strongRecOn with
 | _ i ih =>
  intro hi
  cases hl:listed.getD i false with
  | true=>rfl
  | false =>
   exfalso
   have:i∈Region.ready .any ⟨l⟩ listed:=by
    rw[Qj2]
    refine⟨hi,?_,l[i],by simp[hi],fun e he bp=>?_⟩
    ·have h1:listed.getD i true=listed.getD i false:=by simp[Array.getD,hs,hi]
     rw[h1,hl]
    ·have hlt:=Jj5 (o:=l[i]) hb (QU hi) he bp
     exact ih e.on hlt (by omega)
   rw[hr]at this
   simp at this
theorem Qwu{l:List Oper}{Q:Exit→Act→World→Prop}{i:Nat}{o:Oper}{K:Act→World→Prop}(ho:l[i]?=some o)(h:wpList P ⟨l⟩ (Exit.then K Q) [o] a w):wpOp P ⟨l⟩ Q i K a w:=by
 have wm:(⟨l⟩:Array Oper)[i]?=some o:=by simpa using ho
 unfold wpOp
 rw[wm]
 unfold wpList at h
 simp only
 split
 ·rename_i hw
  rw[if_pos hw]at h
  rcases h with h | ⟨h1,h2⟩
  ·left
   unfold Oper.wp at *
   generalize (execOp a.eval o).run P w=res at *
   cases res with
   | ok nx w1 =>
    cases nx<;>first
     | exact h
     | exact Calls.mono h (fun e w'' he=>by cases e<;>exact he)
     | exact Rows.mono h (fun _ _ he=>he)
   | halt x w1=>cases x<;>exact h
  ·exact .inr ⟨h1,h2⟩
 ·rename_i hw
  rw[if_neg hw]at h
  exact h
theorem Qh2{l:List Oper}{Q:Exit→Act→World→Prop}{i:Nat}{o:Oper}(ho:l[i]?=some o)(h:wpList P ⟨l⟩ Q (l.drop i) a w):wpOp P ⟨l⟩ Q i (wpList P ⟨l⟩ Q (l.drop (i+1))) a w:=by
 have wm:(⟨l⟩:Array Oper)[i]?=some o:=by simpa using ho
 have hi:=(QK.1 ho).1
 rw[XY hi,(QK.1 ho).2]at h
 unfold wpOp
 rw[wm]
 exact h
theorem Sb.perm{O':List TL}(h:Sb β X G D H O a w)(hp:O.Perm O'):Sb β X G D H O' a w:=by
 have kj:∀b o,Jf X.ok X.w.heap.size β H O w b o→Jf X.ok X.w.heap.size β H O' w b o:=fun b o ⟨h1,h2,h3,h4⟩=>⟨h1,h2,h3,fun u hu=>h4 u (hp.mem_iff.2 hu)⟩
 refine { sz:=h.sz,df:=h.df,fr:=h.fr,pn:=h.pn,tm:=h.tm,bel:=h.bel,dat:=h.dat.weak kj,obj:=h.obj,own:=fun u hu=>⟨u.weak (h.own u (hp.mem_iff.2 hu)).1 kj,(h.own u (hp.mem_iff.2 hu)).2⟩,dHH:=h.dHH,dHO:=fun p xm u hu=>h.dHO p xm u (hp.mem_iff.2 hu),dOO:=?_ }
 exact(hp.pairwise_iff (fun {x y} hxy g hg zt=>hxy g zt hg)).1 h.dOO
end
end Gd

/- Struct equality, literals of the call's own, results in cells, local arrays, function values. -/
namespace Gd
open Go Go.RowKit
set_option linter.unusedVariables false
set_option linter.unusedSimpArgs false
def Qpn(T:Tab):List Field→List Value→List Value→Option Bool
 | [],_,_=>some true
 | f::fs,xs,ys=>match Qh T f.type,xs[f.offset]?,ys[f.offset]?,Qpn T fs xs ys with
  | some ⟨_,.int _,_,_,_⟩,some (.int k a),some (.int k' b),some r=>bif Rk k k' then some ((a==b)&&r)else none
  | some ⟨_,.bool,_,_,_⟩,some (.bool a),some (.bool b),some r=>some ((a==b)&&r)
  | some ⟨_,.string,_,_,_⟩,some (.string ⟨⟨a⟩⟩),some (.string ⟨⟨b⟩⟩),some r=>some ((a==b)&&r)
  | _,_,_,_=>none
def O5(fs:List Field):Bool:=fs.all fun f=>f.name != "_"
section
variable {P:Program} {T:Tab} {β:Nat→Nat} {X:Cx} {G:GL} {D:List DF} {H:HL} {O:List TL} {a:Act} {w w':World}
variable {ops:Array Oper} {Q:Exit→Act→World→Prop} {rest:List Oper}
theorem Qgh(hT:Q4 P T){t:TypeId}{e:TE}(he:Qh T t=some e)(ha:X9 e.d=false){xs:List Value}{off:Nat}{v:Value}(hv:xs[off]?=some v) :
  (part t xs.toArray off).run P w=.ok v w:=Qph hT w he xs off (by rw[ha]; simpa using hv)
theorem Qwv(hT:Q4 P T)(d:Nat):∀{fs:List Field} {xs ys:List Value} {r:Bool},O5 fs=true→Qpn T fs xs ys=some r→(Op.eqFields (d+1) xs.toArray ys.toArray fs).run P w=.ok r w
 | [],xs,ys,r,_,h=>by simp[Qpn]at h; subst h; rfl
 | f::fs,xs,ys,r,hb,h=>by
  simp only[O5,ZT,QQ]at hb
  have hn:f.name ≠ "_" := by simpa using hb.1
  simp only[Qpn]at h
  have key:∀{e:TE} {u v:Value} {p q:Bool},Qh T f.type=some e→X9 e.d=false→xs[f.offset]?=some u→ys[f.offset]?=some v →
    (Op.equalIn (d+1) f.type u v).run P w=.ok p w→Qpn T fs xs ys=some q→(Op.eqFields (d+1) xs.toArray ys.toArray (f::fs)).run P w=.ok (p&&q) w:=by
   intro e u v p q he ha hu hv hp hq
   have ih:=Qwv hT d (by simpa[O5]using hb.2) hq
   simp only[Op.eqFields,ne_eq,hn,not_false_eq_true,if_true,Sem.run_bind,Qgh hT he ha hu,Qgh hT he ha hv,Result.andThen_ok,hp]
   cases p with
   | true=>simpa using ih
   | false=>simp
  split at h
  ·rename_i t1 k z1 s1 b1 k1 a1 k2 a2 q he hu hv hq
   cases hk:Rk k1 k2 with
   | false=>rw[hk]at h; cases h
   | true =>
    rw[hk]at h
    simp only[cond_true,Option.some.injEq]at h
    subst h
    have:=C4 hk
    subst this
    exact key he rfl hu hv (run_equalIn_int w d f.type k1 k a1 a2 (Jm hT he).2) hq
  ·rename_i he hu hv hq
   simp at h; subst h
   exact key he rfl hu hv (run_equalIn_bool' w d f.type _ _ (Jm hT he).2) hq
  ·rename_i t1 z1 s1 b1 a1 a2 q he hu hv hq
   simp at h; subst h
   refine key he rfl hu hv ?_ hq
   rw[run_equalIn_string w d f.type ⟨⟨a1⟩⟩ ⟨⟨a2⟩⟩ (Jm hT he).2]
   rw[show(ByteArray.mk ⟨a1⟩).toList=a1 from ByteArray.toList_mk a1,show(ByteArray.mk ⟨a2⟩).toList=a2 from ByteArray.toList_mk a2]
  ·cases h
theorem Sb.allocTL(h:Sb β X G D H O a w)(hb:Below w.heap.size w w'){t:TL}(ht:∀g,t.blks g→w.heap.size≤g)(hq:t.p (Jf X.ok X.w.heap.size β H (t::O) w') w'):Sb β X G D H (t::O) a w':=by
 have h':=h.below hb
 have kq:Evo (Jf X.ok X.w.heap.size β H O w) w w':=(Evo.of_below hb).mono fun b o hk=>hk.2.1
 have kj:∀b o,Jf X.ok X.w.heap.size β H O w b o→Jf X.ok X.w.heap.size β H (t::O) w' b o:=by
  rintro b o ⟨h1,h2,h3,h4⟩
  refine⟨h1,JU h2 hb.size,h3,fun u hu hc=>?_⟩
  rcases QX.1 hu with rfl | hu
  ·have:=ht b (u.cb hc); omega
  ·exact h4 u hu hc
 refine { h' with dat:=(h.dat.evo kq).weak kj,own:=fun u hu=>?_,dHO:=fun p hp u hu=>?_,dOO:=List.Pairwise.cons (fun u hu g hg zt=>?_) h'.dOO }
 ·rcases QX.1 hu with rfl | hu
  ·exact⟨hq,fun g hg=>.inl (QN h.bel.size (ht g hg))⟩
  ·exact⟨u.weak (u.keep (h.own u hu).1 (fun g hg=>hb.block g (h.olt hu hg)) kq) kj,(h.own u hu).2⟩
 ·rcases QX.1 hu with rfl | hu
  ·intro hg
   have:=ht _ hg
   have:=h.hlt hp
   omega
  ·exact h'.dHO p hp u hu
 ·have:=ht g hg
  have:=h.olt hu zt
  omega
theorem Sb.allocOwn(h:Sb β X G D H O a w)(hb:Below w.heap.size w w'){v:Value}{e sz m:Nat}{xs:List Value}(hv:v.ownBlock=some w.heap.size∨v.ownBlock=none)(hm:Zv v=m)(kb:w'.ownsRowS 0 e sz v m xs) :
  Sb β X G D H (tl v e sz::O) a w':=by
 subst hm
 refine h.allocTL hb (t:=tl v e sz) (fun g hg=>?_) ⟨xs,kb⟩
 rcases hv with hv | hv
 ·have hg:v.ownBlock=some g:=hg
  rw[hv]at hg; injection hg with hg; omega
 ·have hg:v.ownBlock=some g:=hg
  rw[hv]at hg; cases hg
theorem Jj6(w:World)(B:Nat)(hB:B≤w.heap.size)(e sz m:Nat)(cs:List Value)(hl:cs.length=m*sz)(hm:m≤maxLen) :
  (w.alloc (.cells cs.toArray e)).ownsRowS B e sz (.slice (some ⟨w.heap.size,0,none⟩) m m) m cs :=
 ⟨hl,.inr ⟨w.heap.size,m,cs.toArray,(0,0),rfl,hB,heap_alloc_new w _,.inl rfl,QD _,hm,by simp[hl],by rw[←hl]; simp⟩⟩
theorem Qpo(hT:Q4 P T)(h:Sb β X G D H O a w){t:TypeId}{d:Nat}{ps:String}{af:Array Edge}{ty:TypeId}{gd:Option (Nat×Bool)}
  (hg:B4 ops G ⟨some d,.buildSlice t 0 ⟨[]⟩,ty,ps,af,gd⟩=some true) (hlt:okD X d=true)
  {τ:Type} {r:RT τ} {e:TypeId} {te ee:TE} (ht:Qh T t=some te) (kr:te.d=.slice e) (he:Qh T e=some ee)
  (hk:∀b a' w',isV (rSl r) (Jf X.ok X.w.heap.size β H (tl (.slice (some ⟨b,0,none⟩) (List.length ([]:List τ)) 0) e ee.size::O) w') w' [] (.slice (some ⟨b,0,none⟩) (List.length ([]:List τ)) 0) →
   Sb β X (Tl G d (.v (.slice (some ⟨b,0,none⟩) (List.length ([]:List τ)) 0))) D H (tl (.slice (some ⟨b,0,none⟩) (List.length ([]:List τ)) 0) e ee.size::O) a' w'→wpList P ops Q rest a' w') :
  wpList P ops Q (⟨some d,.buildSlice t 0 ⟨[]⟩,ty,ps,af,gd⟩::rest) a w:=by
 have ka:(execOp a.eval ⟨some d,.buildSlice t 0 ⟨[]⟩,ty,ps,af,gd⟩).run P w=.ok (.value (.slice (some ⟨w.heap.size,0,none⟩) 0 0)) (w.alloc (.cells #[] e)):=by
  have wq:(underlying t).run P w=.ok (.slice e) w:=by rw[Jx hT w ht,kr]
  unfold execOp
  simp[Instr.buildSlice,wq,J6 hT w he,Instr.fill,newRow]
  rw[show Array.range 0=#[]from by simp[Array.range]]
  simp
 refine Jl (Kj h hg) (Yo ka ?_)
 have hb:Below w.heap.size w (w.alloc (.cells #[] e)):=(Below.refl _ _).alloc (QD _) _
 exact hk _ _ _ (Z5.2 ⟨_,0,0,rfl,rfl,QD _,fun h=>absurd h (by omega)⟩)
  ((h.allocOwn hb (.inl rfl) rfl (Jj6 w 0 (JB _) e ee.size 0 [] (by simp) (by simp[maxLen]))).put hlt (.v _))
end
end Gd

/- Results that are rows of the caller's own; local arrays; objects that are no longer written; function values. -/
namespace Gd
open Go Go.RowKit
set_option linter.unusedVariables false
set_option linter.unusedSimpArgs false
section
variable {P:Program} {T:Tab} {β:Nat→Nat} {X:Cx} {G:GL} {D:List DF} {H:HL} {O:List TL} {a:Act} {w w':World}
variable {ops:Array Oper} {Q:Exit→Act→World→Prop} {rest:List Oper}
end
end Gd

/- Local arrays of integers. -/
namespace Gd
open Go Go.RowKit
set_option linter.unusedVariables false
set_option linter.unusedSimpArgs false
section
variable {P:Program} {T:Tab} {β:Nat→Nat} {X:Cx} {G:GL} {D:List DF} {H:HL} {O:List TL} {a:Act} {w w':World}
variable {ops:Array Oper} {Q:Exit→Act→World→Prop} {rest:List Oper}
end
end Gd

/- Division and shifts by what is not a constant. -/
namespace Gd
open Go Go.RowKit
set_option linter.unusedVariables false
set_option linter.unusedSimpArgs false
def Qj3(k:IntKind)(x y:Int):Option Int:=if y=0 then none else some (k.wrap (x.tdiv y))
def Qww(x y:Int):Option Int:=if y=0 then none else some (x.tmod y)
def Jaw(k:IntKind)(x y:Int):Option Int:=if y<0 then none else some (x.fdiv (2 ^ (min y.toNat k.bits)))
def Jax(k:IntKind)(x y:Int):Option Int:=if y<0 then none else some (k.wrap (x*2 ^ (min y.toNat k.bits)))
section
variable {P:Program} {T:Tab} {β:Nat→Nat} {X:Cx} {G:GL} {D:List DF} {H:HL} {O:List TL} {a:Act} {w w':World}
variable {ops:Array Oper} {Q:Exit→Act→World→Prop} {rest:List Oper}
theorem Jj7{t:TypeId}{k:IntKind}{u v z:Int}(h:Qj3 k u v=some z)(w:World):(binOp .quo t (.int k u) (.int k v)).run P w=.ok (.int k z) w:=by
 unfold Qj3 at h
 split at h
 ·cases h
 ·rename_i hv
  have:=Option.some.inj h; subst this
  rw[binOp_quo]; unfold Op.intDiv; rw[if_neg hv]; rfl
theorem Jj8{t:TypeId}{k:IntKind}{u v z:Int}(h:Qww u v=some z)(w:World):(binOp .rem t (.int k u) (.int k v)).run P w=.ok (.int k z) w:=by
 unfold Qww at h
 split at h
 ·cases h
 ·rename_i hv
  have:=Option.some.inj h; subst this
  rw[binOp_rem]; unfold Op.intDiv; rw[if_neg hv]; rfl
theorem Jj9{t:TypeId}{k k2:IntKind}{u v z:Int}(h:Jaw k u v=some z)(w:World):(binOp .shr t (.int k u) (.int k2 v)).run P w=.ok (.int k z) w:=by
 unfold Jaw at h
 split at h
 ·cases h
 ·rename_i hv
  have:=Option.some.inj h; subst this
  rw[binOp_shr]; unfold Op.shift; rw[if_neg hv]; rfl
theorem Jka{t:TypeId}{k k2:IntKind}{u v z:Int}(h:Jax k u v=some z)(w:World):(binOp .shl t (.int k u) (.int k2 v)).run P w=.ok (.int k z) w:=by
 unfold Jax at h
 split at h
 ·cases h
 ·rename_i hv
  have:=Option.some.inj h; subst this
  show(Op.shift .shl k u k2 v).run P w=_
  unfold Op.shift; rw[if_neg hv]; rfl
end
end Gd
