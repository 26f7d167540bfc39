/- Opening an argument that holds trees. -/
import Derived.Test.YtcaflpbiaeemgaaGreatXRl
import Derived.Sort.AssemblyPlain
import Derived.Lib.SlicesCompact
import Derived.Test.YtcaflpbiaeemgaaGreatXRc
import Derived.Test.YtcaflpbiaeemgaaGreatGRows
import Derived.Shelf.SlSortCmp.WholeK
import Derived.Shelf.SlSortCmp.NoneTotal
import Derived.Shelf.SortM.Plain
import Derived.Shelf.Slices.CompactI
import Derived.Shelf.SlicesE.DeleteFunc
set_option linter.unusedVariables false
set_option linter.unusedSimpArgs false
namespace Gx
open Go Go.RowKit Gd Go.WideShapes Go.ChangeShapes
section
variable {P:Program}
theorem J8c{τ:Type}{r:RT τ}{t e:TypeId}{g:τ→Prop}(ht:P.underlying t=some (.slice e))(hsz:P.cellsOf e=r.size)(hpos:0<r.size){n:Nat}
  (he:∀m,m<n→∀{H:Type} (enc:TypeId×Value→H) (w:World) (cs:List Value) (x:DataW H×List MemPlace),DataW.trod enc P w 0 (fun _=>true) true m e cs=some x→∃y,r.rep (lt w) w y cs∧g y)
  {H:Type} (enc:TypeId×Value→H) (w:World) (cs:List Value) (x:DataW H×List MemPlace) (h:DataW.trod enc P w 0 (fun _=>true) true n t cs=some x):∃y,(rSl r).rep (lt w) w y cs∧Qxc g y:=by
 rcases DataW.trod_slice ht h with⟨rfl,_⟩ | ⟨a,len,cap,elems,rest,m,hm,rfl,_,_,hlc,hcm,hel,hall,_⟩
 ·exact⟨[],⟨_,rfl,none,0,0,rfl,rfl,QY _,fun h0=>absurd h0 (by omega)⟩,by simp[Qxc]⟩
 ·
  have h1:∀i,i<len→∃y cs,r.rep (lt w) w y cs∧g y∧w.cells? 0 (a.add (i*P.cellsOf e)) (P.cellsOf e)=some cs:=by
   grind [List.getElem?_eq_getElem,Option.bind_eq_some_iff,enc]
  have h2:∀k,k≤len→∃ys:List τ,ys.length=k∧∀i y,ys[i]?=some y→∃cs,r.rep (lt w) w y cs∧g y∧w.cells? 0 (a.add (i*P.cellsOf e)) (P.cellsOf e)=some cs:=by
   intro k
   induction k with
   | zero=>simp_all
   | succ k ih =>
    intro hk;obtain⟨ys,hl,hys⟩:=ih (by omega);obtain⟨y,cs,hy,hg,hcs⟩:=h1 k (by omega);refine⟨ys++[y],by simp[hl],fun i z hz=>?_⟩;grind
  obtain⟨ys,hl,hys⟩:=h2 len (QY _);refine⟨ys,⟨_,rfl,some a,len,cap,rfl,hl,hlc,fun h0=>?_⟩,⟨by omega,fun y hy=>?_⟩⟩
  ·have hsp:a.spot=none:=by
    obtain⟨y,cs,_,_,hcs⟩:=h1 0 h0;obtain⟨_,hlen,hcell⟩:=World.cells?_some hcs;have g0:=hcell 0 (by omega);grind [List.getElem?_eq_getElem,Addr.add,World.cell?_spot]
   obtain⟨b,o,sp⟩:=a;simp only at hsp;subst hsp;refine⟨b,o,rfl,fun i y hi=>?_⟩;obtain⟨cs,hy,_,hcs⟩:=hys i y hi;obtain⟨_,hlen,hcell⟩:=World.cells?_some hcs;refine⟨cs,hy,fun j u hu=>?_⟩;have hj:j<P.cellsOf e:=by rw[←hlen]; exact(List.getElem?_eq_some_iff.1 hu).1
   have:=hcell j hj;rw[hu,add_plain,add_plain,hsz]at this;refine⟨?_,this⟩;show b<w.heap.size;grind [World.cell?,Nat.lt_or_ge,Array.getElem?_eq_none]
  grind [List.getElem?_of_mem]
theorem Jiv{t s t0 t1 t2:TypeId}{a b c:Ty}{ff:Array Field}{f0 f1 f2 f3:Field}(ht:P.underlying t=some (.struct ff))(hff:ff=#[f0,f1,f2,f3])(hc:P.cellsOf t=4)(h0:Yb P t0 a)(h1:Yb P t1 b)(h2:Yb P t2 c)
  (hs:P.underlying s=some (.slice t)) (hcs:P.cellsOf s=1) (ha:a.size=1) (hb:b.size=1) (hd:c.size=1) (q0:f0.type=t0∧f0.offset=0) (q1:f1.type=t1∧f1.offset=1) (q2:f2.type=t2∧f2.offset=2) (q3:f3.type=s∧f3.offset=3) :
  Yb P t (.rose (.pr a (.pr b c))):=by
 have hsize:(rt (.rose (.pr a (.pr b c)))).size=4:=by rw[Jo]; grind [Ty.size]
 have key:∀(n:Nat) {H:Type} (enc:TypeId×Value→H) (w:World) (cs:List Value) (x:DataW H×List MemPlace),DataW.trod enc P w 0 (fun _=>true) true n t cs=some x→∃y,(rt (.rose (.pr a (.pr b c)))).rep (lt w) w y cs∧gd (.rose (.pr a (.pr b c))) y:=by
  intro n
  induction n using Nat.strongRecOn with
  | _ n ih =>
   intro H enc w cs x h;obtain⟨xs,m,hm,_,hl,hlen,hf⟩:=DataW.trod_struct ht h;subst hff;obtain⟨y0,e0,g0⟩:=O7.fld h0 hlen hf 0 0 rfl q0.1 q0.2;obtain⟨y1,e1,g1⟩:=O7.fld h1 hlen hf 1 1 rfl q1.1 q1.2;obtain⟨y2,e2,g2⟩:=O7.fld h2 hlen hf 2 2 rfl q2.1 q2.2;have h3:=hf 3 f3 rfl;have hlen':xs.length=4:=hlen;rw[List.getElem?_eq_getElem (by omega),q3.1,q3.2,hcs]at h3;obtain⟨ys,e3,g3⟩:=J8c (r:=rt (.rose (.pr a (.pr b c)))) hs (by rw[hc,hsize]) (by rw[hsize]; omega) (fun k hk=>ih k (by omega)) enc w _ _ h3;rw[hc]at hl
   match cs,hl with
   | [v0,v1,v2,v3],_ =>
    rw[Jo,ha]at e0;rw[Jo,hb]at e1;rw[Jo,hd]at e2;refine⟨.mk (y0,y1,y2) ys,?_,?_⟩
    ·exact Jbc (c1:=[v0,v1,v2]) (c2:=[v3]) ⟨[v0],[v1,v2],rfl,e0,[v1],[v2],rfl,e1,e2⟩ e3
    ·exact Jur ⟨g0,g1,g2⟩ g3
 exact⟨by rw[hc,hsize],fun hv=>⟨fun _=>by obtain⟨c,rfl,_⟩:=okWide_struct ht hv; exact⟨_,rfl⟩,fun h=>nomatch h⟩,fun enc w n cs x h=>key n enc w cs x h⟩
end
end Gx

/- What library functions make of rows: slices.SortFunc, Sort, Compact, DeleteFunc. -/
namespace Gx
open Go Go.RowKit Gd
def kOk(z:Int):Bool:=decide (-2305843009213693952≤z)&&decide (z≤2305843009213693952)
section
variable {α:Type} (key:α→Int)
abbrev Kd:Type:={x:α // kOk (key x)=true}
def cfK(x y:Kd key):Int:=key x.1 - key y.1
def ltK(x y:Kd key):Bool:=decide (cfK key x y<0)
def Qhn(xs:List α):List (Kd key):=xs.filterMap fun x=>if h:kOk (key x)=true then some ⟨x,h⟩else none
theorem Qsl:∀{xs:List α},xs.all (fun x=>kOk (key x))=true→(Qhn key xs).map (·.1)=xs
 | [],_=>rfl
 | x::xs,h=>by
  simp only[XW,QQ]at h;have:=Qsl h.2;simp_all [Qhn,JB,dif_pos,JQ]
def Jiw:List α→Bool
 | x::y::l=>decide (key x≤key y)&&Jiw (y::l)
 | _=>true
theorem Q7i:∀{l:List α},Jiw key l=true→l.Pairwise fun x y=>key x≤key y
 | [],_=>.nil
 | [x],_=>List.pairwise_singleton _ _
 | x::y::l,h=>by
  simp only[Jiw,QQ,decide_eq_true_eq]at h;have ih:=Q7i h.2;refine List.pairwise_cons.2 ⟨fun z hz=>?_,ih⟩;rcases QX.1 hz with rfl | hz
  ·exact h.1
  grind [Int.le_trans,List.pairwise_cons]
theorem J8d:Sort.SWO (ltK key) where
 irrefl x:=by simp[ltK,cfK]
 trans x y z h1 h2:=by
  have h1:=of_decide_eq_true h1;have h2:=of_decide_eq_true h2;exact decide_eq_true (by grind [cfK])
 ntrans x y z h1 h2:=by
  have h1:=of_decide_eq_false h1;have h2:=of_decide_eq_false h2;exact decide_eq_false (by grind [cfK])
variable [Inhabited (Kd key)]
def Qyu(xs:List (Kd key)):List (Kd key):=(Sort.pdq (ltK key) xs.toArray 0 xs.length (Lib.bitLen xs.length) true true).toList
def Qnh(xs:List α):Option (List α) :=
 bif xs.all (fun x=>kOk (key x))&&decide (xs.length<4611686018427387904)then(bif Nat.ble xs.length 12&&Jiw key xs then some xs else some ((Qyu key (Qhn key xs)).map (·.1)))else none
theorem Q32(xs:List (Kd key)):(Qyu key xs).Perm xs∧(Qyu key xs).Pairwise fun x y=>key x.1≤key y.1:=by
 have h:=Sort.pdq_sorts (ltK key) (J8d key) xs.toArray 0 xs.toArray.size (Lib.bitLen xs.length) true true (QN _) (QY _) (.inl rfl);obtain⟨⟨h1,_,h2⟩,h3⟩:=h;have hsz:xs.toArray.size=xs.length:=by simp
 rw[hsz]at h1 h2 h3;constructor
 ·have e1:∀a:Array (Kd key),a.size=xs.length→(a.extract 0 xs.length).toList=a.toList:=fun a ha=>by
   rw[←ha]; simp
  rw[e1 _ h1,e1 _ hsz]at h2;exact h2
 ·refine ZV.2 fun i j hi hj hij=>?_
  have hl:(Qyu key xs).length=xs.length:=by grind [Qyu,Array.length_toList]
  have:=h3 i j (QN _) hij (by omega);have this:=of_decide_eq_false this;grind [cfK,Qyu,Sort.pdq,ltK,Lib.bitLen]
theorem Qyv{xs ys:List α}(h:Qnh key xs=some ys):ys.Perm xs∧ys.Pairwise fun x y=>key x≤key y:=by
 unfold Qnh at h;cases h1:(xs.all (fun x=>kOk (key x))&&decide (xs.length<4611686018427387904))with
 | false=>rw[h1]at h; cases h
 | true =>
  rw[h1]at h;simp only[QQ]at h1;cases h2:(Nat.ble xs.length 12&&Jiw key xs)with
  | true =>
   rw[h2]at h;obtain rfl:=Option.some.inj h;simp only[QQ]at h2;exact⟨.refl _,Q7i key h2.2⟩
  | false =>
   rw[h2]at h;obtain rfl:=Option.some.inj h;have hs:=Q32 key (Qhn key xs);grind [Qsl]
theorem Q7j{β:Type}[Inhabited β]{lt:β→β→Bool}{d:Array β}(h:∀j,lt d[j+1]! d[j]! = false∨d.size≤j+1)(a:Nat):∀j,j<d.size→Sort.insInner lt a j d=d
 | 0,_=>rfl
 | j+1,hj=>by
  grind [Sort.insInner]
theorem Qqi{β:Type}[Inhabited β]{lt:β→β→Bool}{d:Array β}(h:∀j,lt d[j+1]! d[j]! = false∨d.size≤j+1)(a b:Nat)(hb:b≤d.size):∀(k i:Nat),b - i≤k→Sort.insOuter lt a b i d=d
 | 0,i,hk=>by rw[Sort.insOuter,if_neg (by omega)]
 | k+1,i,hk=>by
  rw[Sort.insOuter];split
  ·rw[Q7j h a i (by omega)]
   exact Qqi h a b hb k (i+1) (by omega)
  ·rfl
theorem Juu{xs:List (Kd key)}(h12:xs.length≤12)(ha:xs.Pairwise fun x y=>key x.1≤key y.1):Qyu key xs=xs:=by
 unfold Qyu;rw[Sort.pdq,if_pos (by omega)];unfold Sort.insertionSort;rw[Qqi (fun j=>?_) 0 xs.length (by simp) xs.length 1 (by omega)];rcases Nat.lt_or_ge (j+1) xs.length with hj | hj
 ·left
  rw[getElem!_pos xs.toArray (j+1) (by simpa using hj),getElem!_pos xs.toArray j (by simp; omega)];have:=ZV.1 ha j (j+1) (by omega) hj (by omega);refine decide_eq_false ?_;grind [cfK]
 grind
end
instance kdFst {β:Type} [Inhabited β]:Inhabited (Kd fun x:Int×β=>x.1):=⟨⟨(0,default),rfl⟩⟩
def Q33(xs:List Int):Option (List Int):=bif decide (xs.length<4611686018427387904)then some (Qsj xs)else none
def Qeh(xs:List Int):Option (List Int):=bif decide (xs.length≤9223372036854775807)then some (Lib.compact xs)else none
def Q34(p:Int→Bool)(xs:List Int):Option (List Int):=bif decide (xs.length≤9223372036854775807)then some (xs.filter fun x=>!p x)else none
end Gx

/- Rows that library functions sort or shorten, by the kit's contracts: slices.SortFunc, Sort, Compact, DeleteFunc. -/
namespace Gx
open Go Go.RowKit Gd
def Qb5:Ty→Bool
 | .int _=>true
 | .bool=>true
 | .pr a b=>Qb5 a&&Qb5 b
 | .st a=>Qb5 a
 | _=>false
def Hl:(t:Ty)→t.De→List Value
 | .int k,x=>[.int k x]
 | .bool,x=>[.bool x]
 | .pr a b,x=>Hl a x.1++Hl b x.2
 | .st a,x=>Hl a x
 | _,_=>[]
theorem Qjp:∀{t:Ty} {x:t.De},Qb5 t=true→(Hl t x).length=t.size
 | .int _,x,_=>rfl
 | .bool,x,_=>rfl
 | .pr a b,x,h=>by
  simp only[Qb5,QQ]at h;simp[Hl,Ty.size,Qjp h.1,Qjp h.2]
 | .st a,x,h=>Qjp (t:=a) h
theorem Qqj:∀{t:Ty} {x:t.De},∀v∈Hl t x,v.oneCell'=true
 | .int _,x,v,h=>by simp[Hl]at h; subst h; rfl
 | .bool,x,v,h=>by simp[Hl]at h; subst h; rfl
 | .pr a b,x,v,h=>by
  rcases QZ.1 (show v∈Hl a x.1++Hl b x.2 from h)with h | h
  ·exact Qqj v h
  ·exact Qqj v h
 | .st a,x,v,h=>Qqj (t:=a) v h
 | .str,x,v,h=>by cases h
 | .sl _,x,v,h=>by cases h
 | .arr _ _,x,v,h=>by cases h
 | .unit,x,v,h=>by cases h
 | .ref,x,v,h=>by cases h
 | .rose _,x,v,h=>by cases h
theorem T9{ok:Ok}{w:World}:∀{t:Ty} {x:t.De} {cs:List Value},Qb5 t=true→((rt t).rep ok w x cs↔cs=Hl t x)
 | .int _,x,cs,_=>Iff.rfl
 | .bool,x,cs,_=>Iff.rfl
 | .pr a b,x,cs,h=>by
  simp only[Qb5,QQ]at h;constructor
  ·rintro⟨c1,c2,e,h1,h2⟩
   rw[e,(T9 h.1).1 h1,(T9 h.2).1 h2]; rfl
  ·rintro rfl
   exact⟨_,_,rfl,(T9 h.1).2 rfl,(T9 h.2).2 rfl⟩
 | .st a,x,cs,h=>T9 (t:=a) h
theorem Ql1{u:Ty}(hfl:Qb5 u=true){ok:Ok}{w:World}:∀{xs:List u.De} {cs:List Value},Ga (rt u) ok w xs cs↔cs=xs.flatMap (Hl u)
 | [],cs=>by simp[Ga]
 | x::xs,cs=>by
  constructor
  ·rintro⟨c1,c2,e,h1,h2⟩
   rw[e,(T9 hfl).1 h1,(Ql1 hfl).1 h2]; rfl
  ·rintro rfl
   exact⟨_,_,rfl,(T9 hfl).2 rfl,(Ql1 hfl).2 rfl⟩
theorem Qjq{u:Ty}(hfl:Qb5 u=true):∀xs:List u.De,(xs.flatMap (Hl u)).length=xs.length*u.size
 | []=>by simp
 | x::xs=>by simp[JI,Qjp hfl,Qjq hfl xs,Nat.add_mul,XT]
theorem Qwj{u:Ty}(hfl:Qb5 u=true){v:Value}{e:TypeId}{ys:List u.De}{w:World}{ok:Ok}(hl:Gj v=ys.length)(h:w.ownsRowS 0 e u.size v ys.length (ys.flatMap (Hl u))):(ml v e (rt u) ys).p ok w:=by
 refine⟨hl,_,?_,(Ql1 hfl).2 rfl⟩;rw[hl,Jo]; exact h
theorem Q35{u:Ty}(hfl:Qb5 u=true){v0 v:Value}{e:TypeId}{xs:List u.De}{ok:Ok}{w:World}(h:(ml v0 e (rt u) xs).p ok w)(hz:zal v v0) :
  (xs=[]∧v0=.slice none 0 0∧∃p,v=.slice p 0 0) ∨
  (∃g cap cur fz,v=v0∧v0=.slice (some ⟨g,0,none⟩) xs.length cap∧w.heap[g]?=some (.cells cur e fz)∧Q6g fz cur.size∧xs.length≤cap∧cap≤maxLen∧cap*u.size≤cur.size∧cur.toList.take (xs.length*u.size)=xs.flatMap (Hl u)):=by
 obtain⟨hl,cs,hown,hr⟩:=h;have hcs:=(Ql1 hfl).1 hr;rw[Jo]at hown
 have hnil:v0=.slice none 0 0→xs=[]:=fun h0=>by
  subst h0;exact List.length_eq_zero_iff.1 (by rw[←hl]; rfl)
 rcases hown.2 with⟨hv,h0⟩ | ⟨g,cap,cur,fz,hv,_,hg,hfz,hc1,hc2,hc3,ht⟩
 ·left
  refine⟨hnil hv,hv,?_⟩;rcases hz with rfl | ⟨_,A,rfl⟩
  ·grind
  ·exact⟨A,rfl⟩
 ·right
  rcases hz with rfl | ⟨hn,A,rfl⟩
  ·rw[hl]at hv hc1 ht
   grind
  grind
theorem Q36{w:World}{g:Nat}{cur:Array Value}{e:TypeId}{fz:Nat×Nat}(hg:w.heap[g]?=some (.cells cur e fz))(hfz:Q6g fz cur.size){F:List Value}(hF:cur.toList.take F.length=F)(hle:F.length≤cur.size):Sort.Holds id w g 0 F.toArray:=by
 intro j hj;have hj':j<F.length:=by simpa using hj
 have hjc:j<cur.size:=by omega
 have h1:F[j]?=cur[j]?:=by
  grind
 have h2:F.toArray[j]! = cur[j]:=by
  rw[getElem!_pos F.toArray j hj];rw[List.getElem?_eq_getElem hj',JN hjc]at h1;grind
 rw[h2,QW];refine⟨by grind [World.cell?],?_⟩;rcases hfz with rfl | rfl
 ·simp[World.frozen?,hg]
 grind [World.frozen?,Bool.and_eq_false_iff,decide_eq_false_iff_not]
theorem Qyw{w:World}{g n:Nat}{cur:Array Value}{e:TypeId}{fz:Nat×Nat}(hg:w.heap[g]?=some (.cells cur e fz)){F:List Value}(hle:F.length≤cur.size)(os:Array Obj) :
  ∃cur',(Sort.grow (Sort.putRow id (Sort.ahead w n) g 0 F.toArray) os).heap[g]?=some (.cells cur' e fz)∧cur'.size=cur.size∧cur'.toList.take F.length=F:=by
 have hlt:=Uc hg;refine⟨Sort.putCells id 0 F.toArray cur,?_,by simp[Sort.putCells],?_⟩
 ·rw[Sort.heap_grow_old _ _ (by rw[Sort.size_putRow]; exact hlt)]
  unfold Sort.putRow Sort.mapBlock;show(Array.modify w.heap g _)[g]?=_;rw[ZO,if_pos rfl,hg]; rfl
 ·refine ZG fun j=>?_
  rcases Nat.lt_or_ge j F.length with hj | hj
  ·rw[List.getElem?_take_of_lt hj]
   have hjc:j<cur.size:=by omega
   simp only[Sort.putCells,Array.getElem?_toList,Array.getElem?_mapIdx,JN hjc,XJ];rw[if_pos ⟨QN _,by simpa using hj⟩,List.getElem?_eq_getElem hj];grind
  grind
theorem Jix{w:World}{g n:Nat}{F:Array Value}(os:Array Obj){k:Nat}(hk:k<w.heap.size)(hne:k≠g):(Sort.grow (Sort.putRow id (Sort.ahead w n) g 0 F) os).heap[k]?=w.heap[k]?:=by
 rw[Sort.heap_grow_old _ _ (by rw[Sort.size_putRow]; exact hk)];unfold Sort.putRow Sort.mapBlock;show(Array.modify w.heap g _)[k]?=_;rw[ZO,if_neg (Ne.symm hne)]
theorem Q37{w:World}{g n:Nat}{F:Array Value}{L:List Nat}(os:Array Obj)(hg:g∈L):Ki L w.heap.size w (Sort.grow (Sort.putRow id (Sort.ahead w n) g 0 F) os) :=
 ⟨rfl,rfl,rfl,by rw[Sort.size_grow,Sort.size_putRow]; simp_all,fun k hk hn=>Jix os hk fun h=>hn (h▸hg)⟩
section
variable {P:Program} {gl:List (Nat×Σ t:Ty,t.De)}
theorem Q38{c:Con}{e:TypeId}{u:Ty}(hfl:Qb5 u=true)(fx:c.Γ.De→List u.De)(fy:Qia c.Δ→List u.De){ev:List En}{vx:List Value}(hro:c.ro=[])
  (hm:∀x,enc c.Γ x=⟨⟨0,[],.s 5000⟩::ev,[(5000,.row e u (fx x))]⟩) (hm':∀y,Qje c.Δ y=⟨[],[(5000,.row e u (fy y))]⟩) (hle:c.Γ.env.length=vx.length+1)
  (hev:∀(β:Nat→Nat) (ρ:Nat→Value) (ok:Ok) (w:World) (vs:List Value),vs.length=vx.length+1→(∀e∈ev,∃cs,vs[e.t]?=some (e.av.val cs)∧cr β ρ ok w false e.av cs)→∃v,vs=v::vx)
  (hnone:∀x y,fx x=[]→c.fn x=some y→fy y=[])
  (hcn:∀p w,Calls P c.f ⟨.slice p 0 0::vx⟩ w fun e w'=>e=.returned (.tuple #[])∧w'=w)
  (hcs:∀x y,c.fn x=some y→∀g cap w,Sort.Holds id w g 0 ((fx x).flatMap (Hl u)).toArray→g<w.heap.size→(fx x).length≤cap→Calls P c.f ⟨.slice (some ⟨g,0,none⟩) (fx x).length cap::vx⟩ w fun e w' =>
   e=.returned (.tuple #[])∧(fy y).length=(fx x).length∧∃n os,w'=Sort.grow (Sort.putRow id (Sort.ahead w n) g 0 ((fy y).flatMap (Hl u)).toArray) os):Qne P gl c:=by
 intro ok w L β ρ x y vs hok hG hlen hL hargs hy;rw[hm x]at hL hargs;have hO:Qtu [ml (ρ 5000) e (rt u) (fx x)] L ok w:=hL;have h0:=hO.1 _ (.head _);obtain⟨v,rfl⟩:=hev β ρ ok w vs (by rw[hlen,hle]) fun e he=>hargs e (.tail _ he);obtain⟨cs,q1,q2⟩:=hargs _ (.head _);obtain⟨⟨v1,rfl,hz⟩,_⟩:(∃v,cs=[v]∧zal v (ρ 5000))∧∃A n c,ρ 5000=.slice A n c:=q2;obtain rfl:v=v1:=Option.some.inj (show some v=some v1 from q1)
 have hmem:∀ρ':Nat→Value,Qq β ρ' ((Qje c.Δ y).mem++roM c x)=[ml (ρ' 5000) e (rt u) (fy y)]:=fun ρ'=>by
  have:roM c x=[]:=by unfold roM; rw[hro,hm x]; rfl
  rw[this,hm' y]; rfl
 have hres:∃cs,(Value.tuple #[])=(Qd7 (Qje c.Δ y).env).val cs∧∀β' ρ' ok' w',cr β' ρ' ok' w' false (Qd7 (Qje c.Δ y).env) cs:=by
  rw[hm' y];exact⟨[.tuple #[]],rfl,fun _ _ _ _=>⟨[],rfl,rfl⟩⟩
 obtain⟨cs,r1,r2⟩:=hres;rcases Q35 hfl h0.1 hz with⟨hx,hv0,p,rfl⟩ | ⟨g,cap,cur,fz,rfl,hv0,hg,hfz,k1,k2,k3,k4⟩
 ·refine(hcn p w).mono ?_
  rintro e1 w' ⟨rfl,rfl⟩;have hyy:=hnone x y hx hy;refine⟨_,rfl,⟨β,ρ,fun i hi=>⟨rfl,rfl⟩,⟨cs,r1,r2 _ _ _ _⟩,?_,?_⟩,Ki.refl _ _ _⟩
  ·rw[hmem]
   intro t ht;rcases QO.1 ht with rfl
   refine⟨Qwj hfl (by rw[hv0,hyy]; rfl) (by rw[hv0,hyy]; exact World.ownsRowS_nil _ _ _ _),fun g hg=>?_⟩;rw[show(ml (ρ 5000) e (rt u) (fy y)).blks g=((ρ 5000).ownBlock=some g)from rfl,hv0]at hg;cases hg
  ·rw[hmem]; grind
 ·have hgL:g∈L:=h0.2.1 g (by show(ρ 5000).ownBlock=some g; rw[hv0]; rfl)
  have hfx:=Qjq hfl (fx x);have hle2:(fx x).length*u.size≤cur.size:=Nat.le_trans (QM _ k1) k3;have hcall:=hcs x y hy g cap w (Q36 hg hfz (by rw[hfx]; exact k4) (by rw[hfx]; exact hle2)) (Uc hg) k1;rw[←hv0]at hcall;refine hcall.mono ?_;rintro e1 w' ⟨rfl,hll,n,os,rfl⟩;have hfy:=Qjq hfl (fy y);obtain⟨cur',c1,c2,c3⟩:=Qyw (n:=n) hg (F:=(fy y).flatMap (Hl u)) (by rw[hfy,hll]; exact hle2) os;refine⟨_,rfl,⟨β,ρ,fun i hi=>⟨rfl,rfl⟩,⟨cs,r1,r2 _ _ _ _⟩,?_,?_⟩,Q37 os hgL⟩
  ·rw[hmem]
   intro t ht;rcases QO.1 ht with rfl
   refine⟨Qwj hfl (by rw[hv0]; exact hll.symm) ?_,fun g' hg'=>.inr ?_⟩
   ·exact⟨hfy,.inr ⟨g,cap,cur',fz,by rw[hv0,hll],QN _,c1,by rw[c2]; exact hfz,by omega,k2,by rw[c2]; exact k3,by rw[←hfy]; exact c3⟩⟩
   ·rw[show(ml (ρ 5000) e (rt u) (fy y)).blks g'=((ρ 5000).ownBlock=some g')from rfl,hv0]at hg'
    rw[show(Value.slice (some ⟨g,0,none⟩) (fx x).length cap).ownBlock=some g from rfl]at hg';grind
  ·rw[hmem]; grind
theorem Q39{c:Con}{e:TypeId}{u:Ty}(hfl:Qb5 u=true)(fx:c.Γ.De→List u.De)(fy:Qia c.Δ→List u.De){ev:List En}{vx:List Value}(hro:c.ro=[])
  (hm:∀x,enc c.Γ x=⟨⟨0,[],.s 5000⟩::ev,[(5000,.row e u (fx x))]⟩) (hm':∀y,Qje c.Δ y=⟨[⟨0,[],.s 0⟩],[(0,.row e u (fy y))]⟩) (hle:c.Γ.env.length=vx.length+1) (hid:c.Γ.mem.map Prod.fst=[5000])
  (hev:∀(β:Nat→Nat) (ρ:Nat→Value) (ok:Ok) (w:World) (vs:List Value),vs.length=vx.length+1→(∀e∈ev,∃cs,vs[e.t]?=some (e.av.val cs)∧cr β ρ ok w false e.av cs)→∃v,vs=v::vx)
  (hnone:∀x y,fx x=[]→c.fn x=some y→fy y=[])
  (hcn:∀p w,Calls P c.f ⟨.slice p 0 0::vx⟩ w fun e w'=>e=.returned (.slice p 0 0)∧w'=w)
  (hcs:∀x y,c.fn x=some y→∀g cap w,Sort.Holds id w g 0 ((fx x).flatMap (Hl u)).toArray→g<w.heap.size→(fx x).length≤cap→Calls P c.f ⟨.slice (some ⟨g,0,none⟩) (fx x).length cap::vx⟩ w fun e w' =>
   e=.returned (.slice (some ⟨g,0,none⟩) (fy y).length cap)∧(fy y).length≤(fx x).length∧∃n os zs,zs.length+(fy y).length*u.size≤(fx x).length*u.size∧w'=Sort.grow (Sort.putRow id (Sort.ahead w n) g 0 ((fy y).flatMap (Hl u)++zs).toArray) os):Qne P gl c:=by
 intro ok w L β ρ x y vs hok hG hlen hL hargs hy;rw[hm x]at hL hargs;have hO:Qtu [ml (ρ 5000) e (rt u) (fx x)] L ok w:=hL;have h0:=hO.1 _ (.head _);obtain⟨v,rfl⟩:=hev β ρ ok w vs (by rw[hlen,hle]) fun e he=>hargs e (.tail _ he);obtain⟨cs,q1,q2⟩:=hargs _ (.head _);obtain⟨⟨v1,rfl,hz⟩,_⟩:(∃v,cs=[v]∧zal v (ρ 5000))∧∃A n c,ρ 5000=.slice A n c:=q2;obtain rfl:v=v1:=Option.some.inj (show some v=some v1 from q1)
 have hmem:∀ρ':Nat→Value,Qq β ρ' ((Qje c.Δ y).mem++roM c x)=[ml (ρ' 0) e (rt u) (fy y)]:=fun ρ'=>by
  have:roM c x=[]:=by unfold roM; rw[hro,hm x]; rfl
  rw[this,hm' y]; rfl
 have hag:∀r:Value,agP (c.Γ.mem.map Prod.fst) β β ρ (fun i=>if i=0 then r else ρ i):=fun r i hi=>by
  rw[hid]at hi;grind
 rcases Q35 hfl h0.1 hz with⟨hx,hv0,p,rfl⟩ | ⟨g,cap,cur,fz,rfl,hv0,hg,hfz,k1,k2,k3,k4⟩
 ·refine(hcn p w).mono ?_
  rintro e1 w' ⟨rfl,rfl⟩;have hyy:=hnone x y hx hy;refine⟨_,rfl,⟨β,_,hag (.slice none 0 0),⟨[.slice p 0 0],?_,?_⟩,?_,?_⟩,Ki.refl _ _ _⟩
  ·rw[hm' y]; rfl
  ·rw[hm' y]
   exact⟨⟨_,rfl,.inr ⟨rfl,_,rfl⟩⟩,none,0,0,rfl⟩
  ·rw[hmem]
   intro t ht;rcases QO.1 ht with rfl
   refine⟨Qwj hfl (by rw[hyy]; rfl) (by rw[hyy]; exact World.ownsRowS_nil _ _ _ _),fun g hg=>?_⟩;cases hg
  ·rw[hmem]; grind
 ·have hgL:g∈L:=h0.2.1 g (by show(ρ 5000).ownBlock=some g; rw[hv0]; rfl)
  have hfx:=Qjq hfl (fx x);have hle2:(fx x).length*u.size≤cur.size:=Nat.le_trans (QM _ k1) k3;have hcall:=hcs x y hy g cap w (Q36 hg hfz (by rw[hfx]; exact k4) (by rw[hfx]; exact hle2)) (Uc hg) k1;rw[←hv0]at hcall;refine hcall.mono ?_;rintro e1 w' ⟨rfl,hll,n,os,zs,hzs,rfl⟩;have hfy:=Qjq hfl (fy y);obtain⟨cur',c1,c2,c3⟩:=Qyw (n:=n) hg (F:=(fy y).flatMap (Hl u)++zs) (by rw[List.length_append,hfy]; omega) os
  have c4:cur'.toList.take ((fy y).length*u.size)=(fy y).flatMap (Hl u):=by
   have:=congrArg (List.take ((fy y).length*u.size)) c3;rw[XF,Nat.min_eq_left (by rw[List.length_append,hfy]; omega),←hfy,List.take_left]at this;rw[←hfy]; exact this
  refine⟨_,rfl,⟨β,_,hag (.slice (some ⟨g,0,none⟩) (fy y).length cap),⟨[.slice (some ⟨g,0,none⟩) (fy y).length cap],?_,?_⟩,?_,?_⟩,Q37 os hgL⟩
  ·rw[hm' y]; rfl
  ·rw[hm' y]
   exact⟨⟨_,rfl,.inl rfl⟩,_,_,_,rfl⟩
  ·rw[hmem]
   intro t ht;rcases QO.1 ht with rfl
   refine⟨Qwj hfl rfl ?_,fun g' hg'=>.inr ?_⟩
   ·exact⟨hfy,.inr ⟨g,cap,cur',fz,rfl,QN _,c1,by rw[c2]; exact hfz,by omega,k2,by rw[c2]; exact k3,c4⟩⟩
   ·have hg':(some g:Option Nat)=some g':=hg'
    grind
  ·rw[hmem]; grind
end
theorem Qub{α:Type}{enc:α→List Value}{k:Nat}(hk:∀x,(enc x).length=k):∀(l:List α) (i c:Nat),c<k→(l.flatMap enc)[i*k+c]?=(l[i]?).bind fun x=>(enc x)[c]?
 | [],i,c,_=>by simp
 | x::l,0,c,h=>by
  rw[JI,JC (by rw[hk]; omega)]; simp
 | x::l,i+1,c,h=>by
  have e:(i+1)*k+c=k+(i*k+c):=by rw[Nat.add_mul]; omega
  rw[JI,JF (by rw[hk,e]; omega),hk,e,JR,Qub hk l i c h]; simp
theorem Quc{α:Type}{enc:α→List Value}{k:Nat}(hk:∀x,(enc x).length=k):∀l:List α,(l.flatMap enc).length=l.length*k
 | []=>by simp
 | x::l=>by simp[JI,hk,Quc hk l,Nat.add_mul,XT]
theorem Qyx{α:Type}[Inhabited α]{enc:α→List Value}{k:Nat}(hk:∀x,(enc x).length=k)(l:List α):Sort.flatK enc k l.toArray=(l.flatMap enc).toArray:=by
 have hlen:=Quc hk l;refine Sort.ext_get! (by simp[hlen]) fun t ht=>?_;have ht':t<l.length*k:=by simpa using ht
 have k0:0<k:=by
  grind
 have e2:=Qub hk l (t / k) (t % k) (Nat.mod_lt _ k0);have hi:t / k<l.length:=Nat.div_lt_of_lt_mul (by rwa[Nat.mul_comm]);have hc:t % k<(enc l[t / k]).length:=by rw[hk]; exact Nat.mod_lt _ k0
 rw[Nat.div_add_mod',List.getElem?_eq_getElem hi,QJ,List.getElem?_eq_getElem hc,List.getElem?_eq_getElem (by rw[hlen]; exact ht')]at e2;rw[Sort.get_flatK enc k l.toArray t (by simpa using ht')];grind
theorem Qod{α:Type}[Inhabited α](enc:α→Value)(w:World)(g off:Nat)(l:List α):Sort.putRow enc w g off l.toArray=Sort.putRow id w g off (l.map enc).toArray:=by
 unfold Sort.putRow;congr 1;funext c;unfold Sort.putCells;grind
theorem Qsm{α:Type}[Inhabited α]{enc:α→Value}{w:World}{g off:Nat}{l:List α}(h:Sort.Holds id w g off (l.map enc).toArray):Sort.Holds enc w g off l.toArray:=by
 intro j hj;have hj':j<l.length:=by simpa using hj
 have:=h j (by simpa using hj');rw[getElem!_pos (l.map enc).toArray _ (by simpa using hj')]at this;rw[getElem!_pos l.toArray _ hj];grind
section
variable {P:Program} {ρ:Shelf.Ren}
open Go.Proofs in
theorem Jcz{u:Ty}(hfl:Qb5 u=true)(key:u.De→Int)[Inhabited (Kd key)](L:SlLaysF0.n6 P ρ)(aE:∀w,(isAgg (ρ.t 24)).run P w=.ok true w)(zE:∀w,(Go.sizeOf (ρ.t 24)).run P w=.ok u.size w){g:Nat}
  (eg:∀args w,(callFunc g args).run P w=.ok (.enter g args) w)
  (hclo:∀(x y:u.De) (W:World),Calls P g #[.agg (Hl u x).toArray,.agg (Hl u y).toArray] W fun e w'=>e=.returned (.int .i64 (IntKind.wrap .i64 (key x - key y)))∧∃q os',w'=Sort.grow (W.drewN q) os')
  {xs ys:List u.De} (hs:Qnh key xs=some ys) (blk cap:Nat) (w:World) (hH:Sort.Holds id w blk 0 (xs.flatMap (Hl u)).toArray) (hblk:blk<w.heap.size) :
  Calls P (ρ.f 6) #[.slice (some ⟨blk,0,none⟩) xs.length cap,.func (.func g) #[] #[]] w fun e w'=>e=.returned (.tuple #[])∧ys.length=xs.length∧∃n os,w'=Sort.grow (Sort.putRow id (Sort.ahead w n) blk 0 (ys.flatMap (Hl u)).toArray) os:=by
 unfold Qnh at hs;cases h1:(xs.all (fun x=>kOk (key x))&&decide (xs.length<4611686018427387904))with
 | false=>rw[h1]at hs; cases hs
 | true =>
  rw[h1]at hs;simp only[QQ,decide_eq_true_eq]at h1;have hv:=Qsl key h1.1;have hln:(Qhn key xs).length=xs.length:=by rw[←congrArg List.length hv]; simp
  have hys:ys=(Qyu key (Qhn key xs)).map (·.1):=by
   cases h2:(Nat.ble xs.length 12&&Jiw key xs)with
   | true =>
    rw[h2]at hs;obtain rfl:=Option.some.inj hs;simp only[QQ]at h2;have ha:=Q7i key h2.2;have h12:=QV h2.1;rw[Juu key (by omega),hv];rw[←hv]at ha;exact(JL (R:=fun x y=>key x≤key y) (f:=fun x:Kd key=>x.1)).1 ha
   | false =>
    rw[h2]at hs;exact(Option.some.inj hs).symm
  let enc:Kd key→List Value:=fun x=>Hl u x.1
  have hk:∀x,(enc x).length=u.size:=fun x=>Qjp hfl;have hfm:∀l:List (Kd key),(l.map (·.1)).flatMap (Hl u)=l.flatMap enc:=fun l=>by rw[List.flatMap_map]
  have hw:∀x y:Kd key,IntKind.wrap .i64 (key x.1 - key y.1)=cfK key x y:=fun x y=>by
   have hx:=x.2;have hy:=y.2;simp only[kOk,QQ,decide_eq_true_eq]at hx hy;exact Q9 (by omega) (by omega)
  have hcon:=AnyQ.slices_SortFunc_eq L u.size aE zE enc hk (fun x v hv=>Qqj v hv) (cfK key) (J8d key) g #[] blk 0 cap (Qhn key xs).toArray w eg
   (fun m os dk _ x y=>by
    have:=hclo x.1 y.1 (sortWorldK enc u.size w blk 0 m dk os);rw[hw]at this
    exact this)
   (by unfold Sort.HoldsK; rw[Qyx hk,←hfm,hv]; exact hH) hblk (by simp[hln]; exact h1.2)
  have hsz:(Qhn key xs).toArray.size=xs.length:=by simp[hln]
  rw[hsz]at hcon;refine hcon.mono ?_;rintro e w' ⟨rfl,n,os,rfl⟩;have hp:=Q32 key (Qhn key xs);refine⟨rfl,by rw[hys,List.length_map,hp.1.length_eq,hln],n,os,?_⟩;unfold sortWorldK Sort.putRowK
  have e:Sort.pdq (ltK key) (Qhn key xs).toArray 0 xs.length (Lib.bitLen xs.length) true true=(Qyu key (Qhn key xs)).toArray:=by
   unfold Qyu; rw[hln]
  show Sort.grow (Sort.putRow id (Sort.ahead w n) blk 0 (Sort.flatK enc u.size (Sort.pdq (ltK key) (Qhn key xs).toArray 0 xs.length (Lib.bitLen xs.length) true true))) os=_;rw[e,Qyx hk,←hfm,hys]
end
section
variable {P:Program} {ρ:Shelf.Ren}
theorem Qsn(l:List Int):(l.flatMap (Hl (.int .i64)))=l.map (Value.int .i64):=by
 induction l with
 | nil=>rfl
 | cons x l ih=>rw[JI,ih]; rfl
theorem Jc0(L:Go.Proofs.SlLaysM.n5 P ρ){xs ys:List Int}(hs:Q33 xs=some ys)(blk cap:Nat)(w:World)(hH:Sort.Holds id w blk 0 (xs.flatMap (Hl (.int .i64))).toArray)(hblk:blk<w.heap.size) :
  Calls P (ρ.f 5) #[.slice (some ⟨blk,0,none⟩) xs.length cap] w fun e w'=>e=.returned (.tuple #[])∧ys.length=xs.length∧∃n os,w'=Sort.grow (Sort.putRow id (Sort.ahead w n) blk 0 (ys.flatMap (Hl (.int .i64))).toArray) os:=by
 obtain⟨h1,h2⟩:=bvT hs;have hy:=(Option.some.inj h2).symm;rw[Qsn]at hH ⊢;refine(Go.Proofs.AnyM.slices_Sort_int L blk 0 cap xs w (Qsm hH) hblk (of_decide_eq_true h1)).mono ?_;rintro e w' ⟨rfl,n,os,rfl⟩;rw[Qod,Qu3 (.refl _),←hy];refine⟨rfl,?_,n,os,rfl⟩;rw[hy];exact(Qb4 xs).length_eq
theorem Qyy(L:Go.Proofs.Lays2.n20 P ρ){xs ys:List Int}(hs:Qeh xs=some ys)(blk cap:Nat)(w:World)(hH:Sort.Holds id w blk 0 (xs.flatMap (Hl (.int .i64))).toArray)(hblk:blk<w.heap.size)(hcap:xs.length≤cap) :
  Calls P (ρ.f 20) #[.slice (some ⟨blk,0,none⟩) xs.length cap] w fun e w'=>e=.returned (.slice (some ⟨blk,0,none⟩) ys.length cap)∧ys.length≤xs.length ∧
   ∃n os zs,zs.length+ys.length*1≤xs.length*1∧w'=Sort.grow (Sort.putRow id (Sort.ahead w n) blk 0 (ys.flatMap (Hl (.int .i64))++zs).toArray) os:=by
 obtain⟨h1,h2⟩:=bvT hs;have hy:=(Option.some.inj h2).symm;rw[Qsn]at hH ⊢
 have hle:(Lib.compact xs).length≤xs.length:=by
  grind [Lib.compact,Lib.compactUpTo,List.length_map,Nat.le_trans,List.length_filter_le]
 refine(Go.Proofs.Any.slices_Compact_int L blk 0 cap xs w (Qsm hH) (of_decide_eq_true h1) hcap).mono ?_;rintro e w' ⟨rfl,q,rfl⟩;rw[Qod,QC,hy];exact⟨rfl,hle,q,#[],(List.replicate (xs.length - (Lib.compact xs).length) (0:Int)).map (Value.int .i64),by rw[List.length_map,XB]; omega,by rw[Sort.grow_empty]⟩
open Go.Proofs in
theorem Q1h(L:SlLaysH.n10 P ρ)(v23:∀w,(zeroValue (ρ.t 23)).run P w=.ok (.int .i64 0) w){g:Nat}{p:Int→Bool}(eg:∀args w,(callFunc g args).run P w=.ok (.enter g args) w)
  (hp:∀(x:Int) (W:World),Calls P g #[.int .i64 x] W fun e w'=>e=.returned (.bool (p x))∧∃q,w'=W.drewN q) {xs:List Int} (hl:xs.length≤9223372036854775807) (blk cap:Nat) (w:World) (hH:Sort.Holds id w blk 0 (xs.flatMap (Hl (.int .i64))).toArray) (hblk:blk<w.heap.size) (hcap:xs.length≤cap) :
  Calls P (ρ.f 10) #[.slice (some ⟨blk,0,none⟩) xs.length cap,.func (.func g) #[] #[]] w fun e w'=>e=.returned (.slice (some ⟨blk,0,none⟩) (xs.filter fun x=>!p x).length cap)∧(xs.filter fun x=>!p x).length≤xs.length ∧
   ∃n os zs,zs.length+(xs.filter fun x=>!p x).length*1≤xs.length*1∧w'=Sort.grow (Sort.putRow id (Sort.ahead w n) blk 0 ((xs.filter fun x=>!p x).flatMap (Hl (.int .i64))++zs).toArray) os:=by
 rw[Qsn]at hH ⊢;have hle:=List.length_filter_le (fun x=>!p x) xs;have hg:∀(x:Int) (W:World),FnGives P g #[] #[Value.int .i64 x] (.bool (p x)) W:=fun x W=>hp x W;have h:=AnyE.slices_DeleteFunc L (Value.int .i64) (fun _=>rfl) p g #[] eg 0 v23 blk 0 cap xs.toArray w (fun W x _=>hg x W) (fun n os dk x _=>hg x _) (Qsm hH) (by simpa using hl) (by simpa using hcap);have hsz:xs.toArray.size=xs.length:=by simp
 rw[hsz]at h;refine h.mono ?_;rintro e w' ⟨rfl,q,rfl⟩;rw[Qod,QC];exact⟨rfl,hle,q,#[],(List.replicate (xs.length - (xs.filter fun x=>!p x).length) (0:Int)).map (Value.int .i64),by rw[List.length_map,XB]; omega,by rw[Sort.grow_empty]⟩
open Go.Proofs in
theorem Jc1(L:SlLaysH.n10 P ρ)(v23:∀w,(zeroValue (ρ.t 23)).run P w=.ok (.int .i64 0) w){g:Nat}{p:Int→Bool}(eg:∀args w,(callFunc g args).run P w=.ok (.enter g args) w)
  (hp:∀(x:Int) (W:World),Calls P g #[.int .i64 x] W fun e w'=>e=.returned (.bool (p x))∧∃q,w'=W.drewN q) {xs ys:List Int} (hs:Q34 p xs=some ys) (blk cap:Nat) (w:World) (hH:Sort.Holds id w blk 0 (xs.flatMap (Hl (.int .i64))).toArray) (hblk:blk<w.heap.size) (hcap:xs.length≤cap) :
  Calls P (ρ.f 10) #[.slice (some ⟨blk,0,none⟩) xs.length cap,.func (.func g) #[] #[]] w fun e w'=>e=.returned (.slice (some ⟨blk,0,none⟩) ys.length cap)∧ys.length≤xs.length ∧
   ∃n os zs,zs.length+ys.length*1≤xs.length*1∧w'=Sort.grow (Sort.putRow id (Sort.ahead w n) blk 0 (ys.flatMap (Hl (.int .i64))++zs).toArray) os:=by
 obtain⟨h1,h2⟩:=bvT hs;have hy:=(Option.some.inj h2).symm;rw[hy];exact Q1h L v23 eg hp (of_decide_eq_true h1) blk cap w hH hblk hcap
open Go.Proofs in
theorem Q1i(L:SlLaysH.n10 P ρ)(a:Option Addr)(w:World){fv:Value}:Calls P (ρ.f 10) #[.slice a 0 0,fv] w fun e w'=>e=.returned (.slice a 0 0)∧w'=w:=by
 have mixed:=L.mixed; have t0:=L.t0; have a0:=L.a0; have z0:=L.z0; have v0:=L.v0; have t3:=L.t3; have a3:=L.a3; have z3:=L.z3; have v3:=L.v3; have t4:=L.t4; have a4:=L.a4; have z4:=L.z4; have v4:=L.v4; have t22:=L.t22; have a22:=L.a22; have z22:=L.z22; have v22:=L.v22; have a23:=L.a23; have z23:=L.z23; have t25:=L.t25; have a25:=L.a25; have z25:=L.z25; have v25:=L.v25;have e6:∀args w,(callFunc (ρ.f 6) args).run P w=.ok (.enter (ρ.f 6) args) w:=L.f6.enters rfl;obtain⟨_,_,FG⟩:=L.f10
 go_enter FG,SlBodyH.n10_ntmps ρ
 go_wp2_with (go_at_fn (ρ.f 6); refine(AnyE.slices_IndexFunc_empty { L with } a 0 fv _).mono ?_; rintro e w' ⟨rfl,rfl⟩)
 go_ret
 exact⟨rfl,rfl⟩
end
theorem Jqg{α:Type}{key:α→Int}[Inhabited (Kd key)]{xs ys:List α}(h:xs=[])(hs:Qnh key xs=some ys):ys=[]:=by
 subst h; exact List.Perm.eq_nil (Qyv key hs).1
theorem Jqh{xs ys:List Int}(h:xs=[])(hs:Q33 xs=some ys):ys=[]:=by
 subst h;obtain⟨_,h2⟩:=bvT hs;exact(Option.some.inj h2).symm
theorem Q7k{xs ys:List Int}(h:xs=[])(hs:Qeh xs=some ys):ys=[]:=by
 subst h;obtain⟨_,h2⟩:=bvT hs;exact(Option.some.inj h2).symm
theorem Jqi{p:Int→Bool}{xs ys:List Int}(h:xs=[])(hs:Q34 p xs=some ys):ys=[]:=by
 subst h;obtain⟨_,h2⟩:=bvT hs;grind
theorem Jlu(β:Nat→Nat)(ρ:Nat→Value)(ok:Ok)(w:World)(vs:List Value)(h:vs.length=([]:List Value).length+1)(hev:∀e∈([]:List En),∃cs,vs[e.t]?=some (e.av.val cs)∧cr β ρ ok w false e.av cs):∃v,vs=v::[]:=ZI.1 h
theorem Jlv{g:Nat}(β:Nat→Nat)(ρ:Nat→Value)(ok:Ok)(w:World)(vs:List Value)(h:vs.length=[Value.func (.func g) #[] #[]].length+1)(hev:∀e∈[(⟨1,[],.f g .nil⟩:En)],∃cs,vs[e.t]?=some (e.av.val cs)∧cr β ρ ok w false e.av cs):∃v,vs=v::[Value.func (.func g) #[] #[]]:=by
 obtain⟨cs,h1,ws,h2,h3⟩:=hev _ (.head _);have h3:ws=[]:=h3;subst h3 h2
 obtain⟨a,b,rfl⟩:∃a b,vs=[a,b]:=by
  match vs,h with
  | [a,b],_=>grind
 have h1:b=Value.func (.func g) #[] #[]:=Option.some.inj h1;grind
end Gx
