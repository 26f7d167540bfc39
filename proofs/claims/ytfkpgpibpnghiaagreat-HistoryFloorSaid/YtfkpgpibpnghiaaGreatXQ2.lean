/- Opening an argument that holds trees. -/
import Derived.Test.YtfkpgpibpnghiaaGreatXRl
import Derived.Sort.AssemblyPlain
import Derived.Lib.SlicesCompact
import Derived.Test.YtfkpgpibpnghiaaGreatXRc
import Derived.Test.YtfkpgpibpnghiaaGreatGRows
import Derived.Shelf.SlSortCmp.WholeK
import Derived.Shelf.SlSortCmp.NoneTotal
import Derived.Shelf.SortM.Plain
import Derived.Shelf.Slices.CompactI
import Derived.Shelf.SlicesE.DeleteFunc
namespace Gx
open Go Go.RowKit Gd Go.WideShapes Go.ChangeShapes
set_option linter.unusedVariables false
set_option linter.unusedSimpArgs false
section
variable {P:Program}
theorem Jps{τ:Type}{r:RT τ}{t e:TypeId}{g:τ→Prop}(ht:P.underlying t=some (.slice e))(kg:P.cellsOf e=r.size)(zn:0<r.size){n:Nat}
  (he:∀m,m<n→∀{H:Type} (enc:TypeId×Value→H) (w:World) (cs:List Value) (x:DataW H×List MemPlace),DataW.trod enc P w 0 (fun _=>true) true m e cs=some x→∃y,r.rep (lt w) w y cs∧g y)
  {H:Type} (enc:TypeId×Value→H) (w:World) (cs:List Value) (x:DataW H×List MemPlace) (h:DataW.trod enc P w 0 (fun _=>true) true n t cs=some x):∃y,(rSl r).rep (lt w) w y cs∧Qos g y:=by
 rcases DataW.trod_slice ht h with⟨rfl,_⟩ | ⟨a,len,cap,elems,rest,m,hm,rfl,_,_,hlc,yw,hel,ze,_⟩
 ·exact⟨[],⟨_,rfl,none,0,0,rfl,rfl,QY _,fun h0=>absurd h0 (by omega)⟩,by simp[Qos]⟩
 ·
  have h1:∀i,i<len→∃y cs,r.rep (lt w) w y cs∧g y∧w.cells? 0 (a.add (i*P.cellsOf e)) (P.cellsOf e)=some cs:=by
   grind [List.getElem?_eq_getElem,Option.bind_eq_some_iff,enc]
  have h2:∀k,k≤len→∃ys:List τ,ys.length=k∧∀i y,ys[i]?=some y→∃cs,r.rep (lt w) w y cs∧g y∧w.cells? 0 (a.add (i*P.cellsOf e)) (P.cellsOf e)=some cs:=by
   intro k
   induction k with
   | zero=>simp_all
   | succ k ih =>
    intro hk
    obtain⟨ys,hl,zu⟩:=ih (by omega)
    obtain⟨y,cs,hy,hg,zx⟩:=h1 k (by omega)
    refine⟨ys++[y],by simp[hl],fun i z hz=>?_⟩
    grind
  obtain⟨ys,hl,zu⟩:=h2 len (QY _)
  refine⟨ys,⟨_,rfl,some a,len,cap,rfl,hl,hlc,fun h0=>?_⟩,⟨by omega,fun y hy=>?_⟩⟩
  ·have mj:a.spot=none:=by
    obtain⟨y,cs,_,_,zx⟩:=h1 0 h0
    obtain⟨_,hlen,yy⟩:=World.cells?_some zx
    have g0:=yy 0 (by omega)
    grind [List.getElem?_eq_getElem,Addr.add,World.cell?_spot]
   obtain⟨b,o,sp⟩:=a
   simp only at mj
   subst mj
   refine⟨b,o,rfl,fun i y hi=>?_⟩
   obtain⟨cs,hy,_,zx⟩:=zu i y hi
   obtain⟨_,hlen,yy⟩:=World.cells?_some zx
   refine⟨cs,hy,fun j u hu=>?_⟩
   have hj:j<P.cellsOf e:=by rw[←hlen]; exact(List.getElem?_eq_some_iff.1 hu).1
   have:=yy j hj
   rw[hu,add_plain,add_plain,kg]at this
   refine⟨?_,this⟩
   show b<w.heap.size
   grind [World.cell?,Nat.lt_or_ge,Array.getElem?_eq_none]
  grind [List.getElem?_of_mem]
theorem Q4u{t s t0 t1 t2:TypeId}{a b c:Ty}{ff:Array Field}{f0 f1 f2 f3:Field}(ht:P.underlying t=some (.struct ff))(hff:ff=#[f0,f1,f2,f3])(hc:P.cellsOf t=4)(h0:Jy P t0 a)(h1:Jy P t1 b)(h2:Jy P t2 c)
  (hs:P.underlying s=some (.slice t)) (zx:P.cellsOf s=1) (ha:a.size=1) (hb:b.size=1) (hd:c.size=1) (q0:f0.type=t0∧f0.offset=0) (q1:f1.type=t1∧f1.offset=1) (q2:f2.type=t2∧f2.offset=2) (q3:f3.type=s∧f3.offset=3) :
  Jy P t (.rose (.pr a (.pr b c))):=by
 have xj:(rt (.rose (.pr a (.pr b c)))).size=4:=by rw[Jf]; grind [Ty.size]
 have key:∀(n:Nat) {H:Type} (enc:TypeId×Value→H) (w:World) (cs:List Value) (x:DataW H×List MemPlace),DataW.trod enc P w 0 (fun _=>true) true n t cs=some x→∃y,(rt (.rose (.pr a (.pr b c)))).rep (lt w) w y cs∧gd (.rose (.pr a (.pr b c))) y:=by
  intro n
  induction n using Nat.strongRecOn with
  | _ n ih =>
   intro H enc w cs x h
   obtain⟨xs,m,hm,_,hl,hlen,hf⟩:=DataW.trod_struct ht h
   subst hff
   obtain⟨y0,e0,g0⟩:=Co.fld h0 hlen hf 0 0 rfl q0.1 q0.2
   obtain⟨y1,e1,g1⟩:=Co.fld h1 hlen hf 1 1 rfl q1.1 q1.2
   obtain⟨y2,e2,g2⟩:=Co.fld h2 hlen hf 2 2 rfl q2.1 q2.2
   have h3:=hf 3 f3 rfl
   have hlen':xs.length=4:=hlen
   rw[List.getElem?_eq_getElem (by omega),q3.1,q3.2,zx]at h3
   obtain⟨ys,e3,g3⟩:=Jps (r:=rt (.rose (.pr a (.pr b c)))) hs (by rw[hc,xj]) (by rw[xj]; omega) (fun k hk=>ih k (by omega)) enc w _ _ h3
   rw[hc]at hl
   match cs,hl with
   | [v0,v1,v2,v3],_ =>
    rw[Jf,ha]at e0
    rw[Jf,hb]at e1
    rw[Jf,hd]at e2
    refine⟨.mk (y0,y1,y2) ys,?_,?_⟩
    ·exact Qyp (c1:=[v0,v1,v2]) (c2:=[v3]) ⟨[v0],[v1,v2],rfl,e0,[v1],[v2],rfl,e1,e2⟩ e3
    ·exact Jfe ⟨g0,g1,g2⟩ g3
 exact⟨by rw[hc,xj],fun hv=>⟨fun _=>by obtain⟨c,rfl,_⟩:=okWide_struct ht hv; exact⟨_,rfl⟩,fun h=>nomatch h⟩,fun enc w n cs x h=>key n enc w cs x h⟩
end
end Gx

/- What library functions make of rows: slices.SortFunc, Sort, Compact, DeleteFunc. -/
namespace Gx
open Go Go.RowKit Gd
set_option linter.unusedVariables false
set_option linter.unusedSimpArgs false
def kOk(z:Int):Bool:=decide (-2305843009213693952≤z)&&decide (z≤2305843009213693952)
section
variable {α:Type} (key:α→Int)
abbrev Kd:Type:={x:α // kOk (key x)=true}
def cfK(x y:Kd key):Int:=key x.1 - key y.1
def ltK(x y:Kd key):Bool:=decide (cfK key x y<0)
def Qah(xs:List α):List (Kd key):=xs.filterMap fun x=>if h:kOk (key x)=true then some ⟨x,h⟩else none
theorem Qj8:∀{xs:List α},xs.all (fun x=>kOk (key x))=true→(Qah key xs).map (·.1)=xs
 | [],_=>rfl
 | x::xs,h=>by
  simp only[XX,QQ]at h
  have:=Qj8 h.2
  simp_all [Qah,JU,dif_pos,QP]
def Q4v:List α→Bool
 | x::y::l=>decide (key x≤key y)&&Q4v (y::l)
 | _=>true
theorem Qwm:∀{l:List α},Q4v key l=true→l.Pairwise fun x y=>key x≤key y
 | [],_=>.nil
 | [x],_=>ZW _ _
 | x::y::l,h=>by
  simp only[Q4v,QQ,decide_eq_true_eq]at h
  have ih:=Qwm h.2
  refine List.pairwise_cons.2 ⟨fun z hz=>?_,ih⟩
  rcases QJ.1 hz with rfl | hz
  ·exact h.1
  grind [Int.le_trans,List.pairwise_cons]
theorem Jpt:Sort.SWO (ltK key) where
 irrefl x:=by simp[ltK,cfK]
 trans x y z h1 h2:=by
  have h1:=of_decide_eq_true h1
  have h2:=of_decide_eq_true h2
  exact decide_eq_true (by grind [cfK])
 ntrans x y z h1 h2:=by
  have h1:=of_decide_eq_false h1
  have h2:=of_decide_eq_false h2
  exact decide_eq_false (by grind [cfK])
variable [Inhabited (Kd key)]
def Qqa(xs:List (Kd key)):List (Kd key):=(Sort.pdq (ltK key) xs.toArray 0 xs.length (Lib.bitLen xs.length) true true).toList
def Qe8(xs:List α):Option (List α) :=
 bif xs.all (fun x=>kOk (key x))&&decide (xs.length<4611686018427387904)then(bif Nat.ble xs.length 12&&Q4v key xs then some xs else some ((Qqa key (Qah key xs)).map (·.1)))else none
theorem Qt2(xs:List (Kd key)):(Qqa key xs).Perm xs∧(Qqa key xs).Pairwise fun x y=>key x.1≤key y.1:=by
 have h:=Sort.pdq_sorts (ltK key) (Jpt key) xs.toArray 0 xs.toArray.size (Lib.bitLen xs.length) true true (QM _) (QY _) (.inl rfl)
 obtain⟨⟨h1,_,h2⟩,h3⟩:=h
 have kg:xs.toArray.size=xs.length:=by simp
 rw[kg]at h1 h2 h3
 constructor
 ·have e1:∀a:Array (Kd key),a.size=xs.length→(a.extract 0 xs.length).toList=a.toList:=fun a ha=>by
   rw[←ha]; simp
  rw[e1 _ h1,e1 _ kg]at h2
  exact h2
 ·refine XT.2 fun i j hi hj vk=>?_
  have hl:(Qqa key xs).length=xs.length:=by grind [Qqa,Array.length_toList]
  have:=h3 i j (QM _) vk (by omega)
  have this:=of_decide_eq_false this
  grind [cfK,Qqa,Sort.pdq,ltK,Lib.bitLen]
theorem Qqb{xs ys:List α}(h:Qe8 key xs=some ys):ys.Perm xs∧ys.Pairwise fun x y=>key x≤key y:=by
 unfold Qe8 at h
 cases h1:(xs.all (fun x=>kOk (key x))&&decide (xs.length<4611686018427387904))with
 | false=>rw[h1]at h; cases h
 | true =>
  rw[h1]at h
  simp only[QQ]at h1
  cases h2:(Nat.ble xs.length 12&&Q4v key xs)with
  | true =>
   rw[h2]at h
   obtain rfl:=Option.some.inj h
   simp only[QQ]at h2
   exact⟨.refl _,Qwm key h2.2⟩
  | false =>
   rw[h2]at h
   obtain rfl:=Option.some.inj h
   have hs:=Qt2 key (Qah key xs)
   grind [Qj8]
theorem Qwn{β:Type}[Inhabited β]{lt:β→β→Bool}{d:Array β}(h:∀j,lt d[j+1]! d[j]! = false∨d.size≤j+1)(a:Nat):∀j,j<d.size→Sort.insInner lt a j d=d
 | 0,_=>rfl
 | j+1,hj=>by
  grind [Sort.insInner]
theorem Qh5{β:Type}[Inhabited β]{lt:β→β→Bool}{d:Array β}(h:∀j,lt d[j+1]! d[j]! = false∨d.size≤j+1)(a b:Nat)(hb:b≤d.size):∀(k i:Nat),b - i≤k→Sort.insOuter lt a b i d=d
 | 0,i,hk=>by rw[Sort.insOuter,if_neg (by omega)]
 | k+1,i,hk=>by
  rw[Sort.insOuter]
  split
  ·rw[Qwn h a i (by omega)]
   exact Qh5 h a b hb k (i+1) (by omega)
  ·rfl
theorem Jfg{xs:List (Kd key)}(h12:xs.length≤12)(ha:xs.Pairwise fun x y=>key x.1≤key y.1):Qqa key xs=xs:=by
 unfold Qqa
 rw[Sort.pdq,if_pos (by omega)]
 unfold Sort.insertionSort
 rw[Qh5 (fun j=>?_) 0 xs.length (by simp) xs.length 1 (by omega)]
 rcases Nat.lt_or_ge (j+1) xs.length with hj | hj
 ·left
  rw[getElem!_pos xs.toArray (j+1) (by simpa using hj),getElem!_pos xs.toArray j (by simp; omega)]
  have:=XT.1 ha j (j+1) (by omega) hj (by omega)
  refine decide_eq_false ?_
  grind [cfK]
 grind
end
instance kdFst {β:Type} [Inhabited β]:Inhabited (Kd fun x:Int×β=>x.1):=⟨⟨(0,default),rfl⟩⟩
def Qt3(xs:List Int):Option (List Int):=bif decide (xs.length<4611686018427387904)then some (Qj6 xs)else none
def Re(xs:List Int):Option (List Int):=bif decide (xs.length≤9223372036854775807)then some (Lib.compact xs)else none
def Qt4(p:Int→Bool)(xs:List Int):Option (List Int):=bif decide (xs.length≤9223372036854775807)then some (xs.filter fun x=>!p x)else none
end Gx

/- Rows that library functions sort or shorten, by the kit's contracts: slices.SortFunc, Sort, Compact, DeleteFunc. -/
namespace Gx
open Go Go.RowKit Gd
set_option linter.unusedVariables false
set_option linter.unusedSimpArgs false
def Nu:Ty→Bool
 | .int _=>true
 | .bool=>true
 | .pr a b=>Nu a&&Nu b
 | .st a=>Nu a
 | _=>false
def Xv:(t:Ty)→t.De→List Value
 | .int k,x=>[.int k x]
 | .bool,x=>[.bool x]
 | .pr a b,x=>Xv a x.1++Xv b x.2
 | .st a,x=>Xv a x
 | _,_=>[]
theorem Qb5:∀{t:Ty} {x:t.De},Nu t=true→(Xv t x).length=t.size
 | .int _,x,_=>rfl
 | .bool,x,_=>rfl
 | .pr a b,x,h=>by
  simp only[Nu,QQ]at h
  simp[Xv,Ty.size,Qb5 h.1,Qb5 h.2]
 | .st a,x,h=>Qb5 (t:=a) h
theorem Qh6:∀{t:Ty} {x:t.De},∀v∈Xv t x,v.oneCell'=true
 | .int _,x,v,h=>by simp[Xv]at h; subst h; rfl
 | .bool,x,v,h=>by simp[Xv]at h; subst h; rfl
 | .pr a b,x,v,h=>by
  rcases QX.1 (show v∈Xv a x.1++Xv b x.2 from h)with h | h
  ·exact Qh6 v h
  ·exact Qh6 v h
 | .st a,x,v,h=>Qh6 (t:=a) v h
 | .str,x,v,h=>by cases h
 | .sl _,x,v,h=>by cases h
 | .arr _ _,x,v,h=>by cases h
 | .unit,x,v,h=>by cases h
 | .ref,x,v,h=>by cases h
 | .rose _,x,v,h=>by cases h
theorem Lu{ok:Ok}{w:World}:∀{t:Ty} {x:t.De} {cs:List Value},Nu t=true→((rt t).rep ok w x cs↔cs=Xv t x)
 | .int _,x,cs,_=>Iff.rfl
 | .bool,x,cs,_=>Iff.rfl
 | .pr a b,x,cs,h=>by
  simp only[Nu,QQ]at h
  constructor
  ·rintro⟨c1,c2,e,h1,h2⟩
   rw[e,(Lu h.1).1 h1,(Lu h.2).1 h2]; rfl
  ·rintro rfl
   exact⟨_,_,rfl,(Lu h.1).2 rfl,(Lu h.2).2 rfl⟩
 | .st a,x,cs,h=>Lu (t:=a) h
theorem Qd3{u:Ty}(xl:Nu u=true){ok:Ok}{w:World}:∀{xs:List u.De} {cs:List Value},Ku (rt u) ok w xs cs↔cs=xs.flatMap (Xv u)
 | [],cs=>by simp[Ku]
 | x::xs,cs=>by
  constructor
  ·rintro⟨c1,c2,e,h1,h2⟩
   rw[e,(Lu xl).1 h1,(Qd3 xl).1 h2]; rfl
  ·rintro rfl
   exact⟨_,_,rfl,(Lu xl).2 rfl,(Qd3 xl).2 rfl⟩
theorem Qb6{u:Ty}(xl:Nu u=true):∀xs:List u.De,(xs.flatMap (Xv u)).length=xs.length*u.size
 | []=>by simp
 | x::xs=>by simp[JA,Qb5 xl,Qb6 xl xs,Nat.add_mul,XD]
theorem Qn2{u:Ty}(xl:Nu u=true){v:Value}{e:TypeId}{ys:List u.De}{w:World}{ok:Ok}(hl:K2 v=ys.length)(h:w.ownsRowS 0 e u.size v ys.length (ys.flatMap (Xv u))):(ml v e (rt u) ys).p ok w:=by
 refine⟨hl,_,?_,(Qd3 xl).2 rfl⟩
 rw[hl,Jf]; exact h
theorem Qt5{u:Ty}(xl:Nu u=true){v0 v:Value}{e:TypeId}{xs:List u.De}{ok:Ok}{w:World}(h:(ml v0 e (rt u) xs).p ok w)(hz:zal v v0) :
  (xs=[]∧v0=.slice none 0 0∧∃p,v=.slice p 0 0) ∨
  (∃g cap cur fz,v=v0∧v0=.slice (some ⟨g,0,none⟩) xs.length cap∧w.heap[g]?=some (.cells cur e fz)∧Qvj fz cur.size∧xs.length≤cap∧cap≤maxLen∧cap*u.size≤cur.size∧cur.toList.take (xs.length*u.size)=xs.flatMap (Xv u)):=by
 obtain⟨hl,cs,kb,hr⟩:=h
 have zx:=(Qd3 xl).1 hr
 rw[Jf]at kb
 have ur:v0=.slice none 0 0→xs=[]:=fun h0=>by
  subst h0
  exact List.length_eq_zero_iff.1 (by rw[←hl]; rfl)
 rcases kb.2 with⟨hv,h0⟩ | ⟨g,cap,cur,fz,hv,_,hg,ya,py,pz,jx,ht⟩
 ·left
  refine⟨ur hv,hv,?_⟩
  rcases hz with rfl | ⟨_,A,rfl⟩
  ·grind
  ·exact⟨A,rfl⟩
 ·right
  rcases hz with rfl | ⟨hn,A,rfl⟩
  ·rw[hl]at hv py ht
   grind
  grind
theorem Qt6{w:World}{g:Nat}{cur:Array Value}{e:TypeId}{fz:Nat×Nat}(hg:w.heap[g]?=some (.cells cur e fz))(ya:Qvj fz cur.size){F:List Value}(hF:cur.toList.take F.length=F)(hle:F.length≤cur.size):Sort.Holds id w g 0 F.toArray:=by
 intro j hj
 have fe:j<F.length:=by simpa using hj
 have hjc:j<cur.size:=by omega
 have h1:F[j]?=cur[j]?:=by
  grind
 have h2:F.toArray[j]! = cur[j]:=by
  rw[getElem!_pos F.toArray j hj]
  rw[List.getElem?_eq_getElem fe,JI hjc]at h1
  grind
 rw[h2,QV]
 refine⟨by grind [World.cell?],?_⟩
 rcases ya with rfl | rfl
 ·simp[World.frozen?,hg]
 grind [World.frozen?,Bool.and_eq_false_iff,decide_eq_false_iff_not]
theorem Qqc{w:World}{g n:Nat}{cur:Array Value}{e:TypeId}{fz:Nat×Nat}(hg:w.heap[g]?=some (.cells cur e fz)){F:List Value}(hle:F.length≤cur.size)(os:Array Obj) :
  ∃cur',(Sort.grow (Sort.putRow id (Sort.ahead w n) g 0 F.toArray) os).heap[g]?=some (.cells cur' e fz)∧cur'.size=cur.size∧cur'.toList.take F.length=F:=by
 have hlt:=Y9 hg
 refine⟨Sort.putCells id 0 F.toArray cur,?_,by simp[Sort.putCells],?_⟩
 ·rw[Sort.heap_grow_old _ _ (by rw[Sort.size_putRow]; exact hlt)]
  unfold Sort.putRow Sort.mapBlock
  show(Array.modify w.heap g _)[g]?=_
  rw[ZF,if_pos rfl,hg]; rfl
 ·refine ZZ fun j=>?_
  rcases Nat.lt_or_ge j F.length with hj | hj
  ·rw[List.getElem?_take_of_lt hj]
   have hjc:j<cur.size:=by omega
   simp only[Sort.putCells,Array.getElem?_toList,Array.getElem?_mapIdx,JI hjc,JS]
   rw[if_pos ⟨QM _,by simpa using hj⟩,List.getElem?_eq_getElem hj]
   grind
  grind
theorem Q4w{w:World}{g n:Nat}{F:Array Value}(os:Array Obj){k:Nat}(hk:k<w.heap.size)(zk:k≠g):(Sort.grow (Sort.putRow id (Sort.ahead w n) g 0 F) os).heap[k]?=w.heap[k]?:=by
 rw[Sort.heap_grow_old _ _ (by rw[Sort.size_putRow]; exact hk)]
 unfold Sort.putRow Sort.mapBlock
 show(Array.modify w.heap g _)[k]?=_
 rw[ZF,if_neg (Ne.symm zk)]
theorem Qt7{w:World}{g n:Nat}{F:Array Value}{L:List Nat}(os:Array Obj)(hg:g∈L):Uv L w.heap.size w (Sort.grow (Sort.putRow id (Sort.ahead w n) g 0 F) os) :=
 ⟨rfl,rfl,rfl,by rw[Sort.size_grow,Sort.size_putRow]; simp_all,fun k hk hn=>Q4w os hk fun h=>hn (h▸hg)⟩
section
variable {P:Program} {gl:List (Nat×Σ t:Ty,t.De)}
theorem Qt8{c:Con}{e:TypeId}{u:Ty}(xl:Nu u=true)(fx:c.Γ.De→List u.De)(fy:Qa6 c.Δ→List u.De){ev:List En}{vx:List Value}(hro:c.ro=[])
  (hm:∀x,enc c.Γ x=⟨⟨0,[],.s 5000⟩::ev,[(5000,.row e u (fx x))]⟩) (z6:∀y,Qbu c.Δ y=⟨[],[(5000,.row e u (fy y))]⟩) (hle:c.Γ.env.length=vx.length+1)
  (xn:∀(β:Nat→Nat) (ρ:Nat→Value) (ok:Ok) (w:World) (vs:List Value),vs.length=vx.length+1→(∀e∈ev,∃cs,vs[e.t]?=some (e.av.val cs)∧cr β ρ ok w false e.av cs)→∃v,vs=v::vx)
  (qg:∀x y,fx x=[]→c.fn x=some y→fy y=[])
  (hcn:∀p w,Calls P c.f ⟨.slice p 0 0::vx⟩ w fun e w'=>e=.returned (.tuple #[])∧w'=w)
  (zx:∀x y,c.fn x=some y→∀g cap w,Sort.Holds id w g 0 ((fx x).flatMap (Xv u)).toArray→g<w.heap.size→(fx x).length≤cap→Calls P c.f ⟨.slice (some ⟨g,0,none⟩) (fx x).length cap::vx⟩ w fun e w' =>
   e=.returned (.tuple #[])∧(fy y).length=(fx x).length∧∃n os,w'=Sort.grow (Sort.putRow id (Sort.ahead w n) g 0 ((fy y).flatMap (Xv u)).toArray) os):Qe5 P gl c:=by
 intro ok w L β ρ x y vs kn hG hlen hL zq hy
 rw[hm x]at hL zq
 have hO:Qle [ml (ρ 5000) e (rt u) (fx x)] L ok w:=hL
 have h0:=hO.1 _ (.head _)
 obtain⟨v,rfl⟩:=xn β ρ ok w vs (by rw[hlen,hle]) fun e he=>zq e (.tail _ he)
 obtain⟨cs,q1,q2⟩:=zq _ (.head _)
 obtain⟨⟨v1,rfl,hz⟩,_⟩:(∃v,cs=[v]∧zal v (ρ 5000))∧∃A n c,ρ 5000=.slice A n c:=q2
 obtain rfl:v=v1:=Option.some.inj (show some v=some v1 from q1)
 have ke:∀ρ':Nat→Value,Qi β ρ' ((Qbu c.Δ y).mem++roM c x)=[ml (ρ' 5000) e (rt u) (fy y)]:=fun ρ'=>by
  have:roM c x=[]:=by unfold roM; rw[hro,hm x]; rfl
  rw[this,z6 y]; rfl
 have xq:∃cs,(Value.tuple #[])=(P4 (Qbu c.Δ y).env).val cs∧∀β' ρ' ok' w',cr β' ρ' ok' w' false (P4 (Qbu c.Δ y).env) cs:=by
  rw[z6 y]
  exact⟨[.tuple #[]],rfl,fun _ _ _ _=>⟨[],rfl,rfl⟩⟩
 obtain⟨cs,r1,r2⟩:=xq
 rcases Qt5 xl h0.1 hz with⟨hx,xh,p,rfl⟩ | ⟨g,cap,cur,fz,rfl,xh,hg,ya,k1,k2,k3,k4⟩
 ·refine(hcn p w).mono ?_
  rintro e1 w' ⟨rfl,rfl⟩
  have bw:=qg x y hx hy
  refine⟨_,rfl,⟨β,ρ,fun i hi=>⟨rfl,rfl⟩,⟨cs,r1,r2 _ _ _ _⟩,?_,?_⟩,Uv.refl _ _ _⟩
  ·rw[ke]
   intro t ht
   rcases JW.1 ht with rfl
   refine⟨Qn2 xl (by rw[xh,bw]; rfl) (by rw[xh,bw]; exact World.ownsRowS_nil _ _ _ _),fun g hg=>?_⟩
   rw[show(ml (ρ 5000) e (rt u) (fy y)).blks g=((ρ 5000).ownBlock=some g)from rfl,xh]at hg
   cases hg
  ·rw[ke]; grind
 ·have hgL:g∈L:=h0.2.1 g (by show(ρ 5000).ownBlock=some g; rw[xh]; rfl)
  have l5:=Qb6 xl (fx x)
  have pq:(fx x).length*u.size≤cur.size:=Nat.le_trans (QD _ k1) k3
  have yo:=zx x y hy g cap w (Qt6 hg ya (by rw[l5]; exact k4) (by rw[l5]; exact pq)) (Y9 hg) k1
  rw[←xh]at yo
  refine yo.mono ?_
  rintro e1 w' ⟨rfl,rp,n,os,rfl⟩
  have pt:=Qb6 xl (fy y)
  obtain⟨cur',c1,c2,c3⟩:=Qqc (n:=n) hg (F:=(fy y).flatMap (Xv u)) (by rw[pt,rp]; exact pq) os
  refine⟨_,rfl,⟨β,ρ,fun i hi=>⟨rfl,rfl⟩,⟨cs,r1,r2 _ _ _ _⟩,?_,?_⟩,Qt7 os hgL⟩
  ·rw[ke]
   intro t ht
   rcases JW.1 ht with rfl
   refine⟨Qn2 xl (by rw[xh]; exact rp.symm) ?_,fun g' yb=>.inr ?_⟩
   ·exact⟨pt,.inr ⟨g,cap,cur',fz,by rw[xh,rp],QM _,c1,by rw[c2]; exact ya,by omega,k2,by rw[c2]; exact k3,by rw[←pt]; exact c3⟩⟩
   ·rw[show(ml (ρ 5000) e (rt u) (fy y)).blks g'=((ρ 5000).ownBlock=some g')from rfl,xh]at yb
    rw[show(Value.slice (some ⟨g,0,none⟩) (fx x).length cap).ownBlock=some g from rfl]at yb
    grind
  ·rw[ke]; grind
theorem Qt9{c:Con}{e:TypeId}{u:Ty}(xl:Nu u=true)(fx:c.Γ.De→List u.De)(fy:Qa6 c.Δ→List u.De){ev:List En}{vx:List Value}(hro:c.ro=[])
  (hm:∀x,enc c.Γ x=⟨⟨0,[],.s 5000⟩::ev,[(5000,.row e u (fx x))]⟩) (z6:∀y,Qbu c.Δ y=⟨[⟨0,[],.s 0⟩],[(0,.row e u (fy y))]⟩) (hle:c.Γ.env.length=vx.length+1) (hid:c.Γ.mem.map Prod.fst=[5000])
  (xn:∀(β:Nat→Nat) (ρ:Nat→Value) (ok:Ok) (w:World) (vs:List Value),vs.length=vx.length+1→(∀e∈ev,∃cs,vs[e.t]?=some (e.av.val cs)∧cr β ρ ok w false e.av cs)→∃v,vs=v::vx)
  (qg:∀x y,fx x=[]→c.fn x=some y→fy y=[])
  (hcn:∀p w,Calls P c.f ⟨.slice p 0 0::vx⟩ w fun e w'=>e=.returned (.slice p 0 0)∧w'=w)
  (zx:∀x y,c.fn x=some y→∀g cap w,Sort.Holds id w g 0 ((fx x).flatMap (Xv u)).toArray→g<w.heap.size→(fx x).length≤cap→Calls P c.f ⟨.slice (some ⟨g,0,none⟩) (fx x).length cap::vx⟩ w fun e w' =>
   e=.returned (.slice (some ⟨g,0,none⟩) (fy y).length cap)∧(fy y).length≤(fx x).length∧∃n os zs,zs.length+(fy y).length*u.size≤(fx x).length*u.size∧w'=Sort.grow (Sort.putRow id (Sort.ahead w n) g 0 ((fy y).flatMap (Xv u)++zs).toArray) os):Qe5 P gl c:=by
 intro ok w L β ρ x y vs kn hG hlen hL zq hy
 rw[hm x]at hL zq
 have hO:Qle [ml (ρ 5000) e (rt u) (fx x)] L ok w:=hL
 have h0:=hO.1 _ (.head _)
 obtain⟨v,rfl⟩:=xn β ρ ok w vs (by rw[hlen,hle]) fun e he=>zq e (.tail _ he)
 obtain⟨cs,q1,q2⟩:=zq _ (.head _)
 obtain⟨⟨v1,rfl,hz⟩,_⟩:(∃v,cs=[v]∧zal v (ρ 5000))∧∃A n c,ρ 5000=.slice A n c:=q2
 obtain rfl:v=v1:=Option.some.inj (show some v=some v1 from q1)
 have ke:∀ρ':Nat→Value,Qi β ρ' ((Qbu c.Δ y).mem++roM c x)=[ml (ρ' 0) e (rt u) (fy y)]:=fun ρ'=>by
  have:roM c x=[]:=by unfold roM; rw[hro,hm x]; rfl
  rw[this,z6 y]; rfl
 have xi:∀r:Value,agP (c.Γ.mem.map Prod.fst) β β ρ (fun i=>if i=0 then r else ρ i):=fun r i hi=>by
  rw[hid]at hi
  grind
 rcases Qt5 xl h0.1 hz with⟨hx,xh,p,rfl⟩ | ⟨g,cap,cur,fz,rfl,xh,hg,ya,k1,k2,k3,k4⟩
 ·refine(hcn p w).mono ?_
  rintro e1 w' ⟨rfl,rfl⟩
  have bw:=qg x y hx hy
  refine⟨_,rfl,⟨β,_,xi (.slice none 0 0),⟨[.slice p 0 0],?_,?_⟩,?_,?_⟩,Uv.refl _ _ _⟩
  ·rw[z6 y]; rfl
  ·rw[z6 y]
   exact⟨⟨_,rfl,.inr ⟨rfl,_,rfl⟩⟩,none,0,0,rfl⟩
  ·rw[ke]
   intro t ht
   rcases JW.1 ht with rfl
   refine⟨Qn2 xl (by rw[bw]; rfl) (by rw[bw]; exact World.ownsRowS_nil _ _ _ _),fun g hg=>?_⟩
   cases hg
  ·rw[ke]; grind
 ·have hgL:g∈L:=h0.2.1 g (by show(ρ 5000).ownBlock=some g; rw[xh]; rfl)
  have l5:=Qb6 xl (fx x)
  have pq:(fx x).length*u.size≤cur.size:=Nat.le_trans (QD _ k1) k3
  have yo:=zx x y hy g cap w (Qt6 hg ya (by rw[l5]; exact k4) (by rw[l5]; exact pq)) (Y9 hg) k1
  rw[←xh]at yo
  refine yo.mono ?_
  rintro e1 w' ⟨rfl,rp,n,os,zs,xb,rfl⟩
  have pt:=Qb6 xl (fy y)
  obtain⟨cur',c1,c2,c3⟩:=Qqc (n:=n) hg (F:=(fy y).flatMap (Xv u)++zs) (by rw[List.length_append,pt]; omega) os
  have c4:cur'.toList.take ((fy y).length*u.size)=(fy y).flatMap (Xv u):=by
   have:=congrArg (List.take ((fy y).length*u.size)) c3
   rw[XY,Nat.min_eq_left (by rw[List.length_append,pt]; omega),←pt,List.take_left]at this
   rw[←pt]; exact this
  refine⟨_,rfl,⟨β,_,xi (.slice (some ⟨g,0,none⟩) (fy y).length cap),⟨[.slice (some ⟨g,0,none⟩) (fy y).length cap],?_,?_⟩,?_,?_⟩,Qt7 os hgL⟩
  ·rw[z6 y]; rfl
  ·rw[z6 y]
   exact⟨⟨_,rfl,.inl rfl⟩,_,_,_,rfl⟩
  ·rw[ke]
   intro t ht
   rcases JW.1 ht with rfl
   refine⟨Qn2 xl rfl ?_,fun g' yb=>.inr ?_⟩
   ·exact⟨pt,.inr ⟨g,cap,cur',fz,rfl,QM _,c1,by rw[c2]; exact ya,by omega,k2,by rw[c2]; exact k3,c4⟩⟩
   ·have yb:(some g:Option Nat)=some g':=yb
    grind
  ·rw[ke]; grind
end
theorem Qlv{α:Type}{enc:α→List Value}{k:Nat}(hk:∀x,(enc x).length=k):∀(l:List α) (i c:Nat),c<k→(l.flatMap enc)[i*k+c]?=(l[i]?).bind fun x=>(enc x)[c]?
 | [],i,c,_=>by simp
 | x::l,0,c,h=>by
  rw[JA,JG (by rw[hk]; omega)]; simp
 | x::l,i+1,c,h=>by
  have e:(i+1)*k+c=k+(i*k+c):=by rw[Nat.add_mul]; omega
  rw[JA,JD (by rw[hk,e]; omega),hk,e,JM,Qlv hk l i c h]; simp
theorem Qlw{α:Type}{enc:α→List Value}{k:Nat}(hk:∀x,(enc x).length=k):∀l:List α,(l.flatMap enc).length=l.length*k
 | []=>by simp
 | x::l=>by simp[JA,hk,Qlw hk l,Nat.add_mul,XD]
theorem Qqd{α:Type}[Inhabited α]{enc:α→List Value}{k:Nat}(hk:∀x,(enc x).length=k)(l:List α):Sort.flatK enc k l.toArray=(l.flatMap enc).toArray:=by
 have hlen:=Qlw hk l
 refine Sort.ext_get! (by simp[hlen]) fun t ht=>?_
 have k9:t<l.length*k:=by simpa using ht
 have k0:0<k:=by
  grind
 have e2:=Qlv hk l (t / k) (t % k) (Nat.mod_lt _ k0)
 have hi:t / k<l.length:=Nat.div_lt_of_lt_mul (by rwa[Nat.mul_comm])
 have hc:t % k<(enc l[t / k]).length:=by rw[hk]; exact Nat.mod_lt _ k0
 rw[Nat.div_add_mod',List.getElem?_eq_getElem hi,QW,List.getElem?_eq_getElem hc,List.getElem?_eq_getElem (by rw[hlen]; exact k9)]at e2
 rw[Sort.get_flatK enc k l.toArray t (by simpa using k9)]
 grind
theorem Qf4{α:Type}[Inhabited α](enc:α→Value)(w:World)(g off:Nat)(l:List α):Sort.putRow enc w g off l.toArray=Sort.putRow id w g off (l.map enc).toArray:=by
 unfold Sort.putRow
 congr 1
 funext c
 unfold Sort.putCells
 grind
theorem Qj9{α:Type}[Inhabited α]{enc:α→Value}{w:World}{g off:Nat}{l:List α}(h:Sort.Holds id w g off (l.map enc).toArray):Sort.Holds enc w g off l.toArray:=by
 intro j hj
 have fe:j<l.length:=by simpa using hj
 have:=h j (by simpa using fe)
 rw[getElem!_pos (l.map enc).toArray _ (by simpa using fe)]at this
 rw[getElem!_pos l.toArray _ hj]
 grind
section
variable {P:Program} {ρ:Shelf.Ren}
open Go.Proofs in
theorem Q0c{u:Ty}(xl:Nu u=true)(key:u.De→Int)[Inhabited (Kd key)](L:SlLaysF0.n6 P ρ)(aE:∀w,(isAgg (ρ.t 24)).run P w=.ok true w)(zE:∀w,(Go.sizeOf (ρ.t 24)).run P w=.ok u.size w){g:Nat}
  (eg:∀args w,(callFunc g args).run P w=.ok (.enter g args) w)
  (hclo:∀(x y:u.De) (W:World),Calls P g #[.agg (Xv u x).toArray,.agg (Xv u y).toArray] W fun e w'=>e=.returned (.int .i64 (IntKind.wrap .i64 (key x - key y)))∧∃q os',w'=Sort.grow (W.drewN q) os')
  {xs ys:List u.De} (hs:Qe8 key xs=some ys) (blk cap:Nat) (w:World) (hH:Sort.Holds id w blk 0 (xs.flatMap (Xv u)).toArray) (hblk:blk<w.heap.size) :
  Calls P (ρ.f 6) #[.slice (some ⟨blk,0,none⟩) xs.length cap,.func (.func g) #[] #[]] w fun e w'=>e=.returned (.tuple #[])∧ys.length=xs.length∧∃n os,w'=Sort.grow (Sort.putRow id (Sort.ahead w n) blk 0 (ys.flatMap (Xv u)).toArray) os:=by
 unfold Qe8 at hs
 cases h1:(xs.all (fun x=>kOk (key x))&&decide (xs.length<4611686018427387904))with
 | false=>rw[h1]at hs; cases hs
 | true =>
  rw[h1]at hs
  simp only[QQ,decide_eq_true_eq]at h1
  have hv:=Qj8 key h1.1
  have ju:(Qah key xs).length=xs.length:=by rw[←congrArg List.length hv]; simp
  have zu:ys=(Qqa key (Qah key xs)).map (·.1):=by
   cases h2:(Nat.ble xs.length 12&&Q4v key xs)with
   | true =>
    rw[h2]at hs
    obtain rfl:=Option.some.inj hs
    simp only[QQ]at h2
    have ha:=Qwm key h2.2
    have h12:=QK h2.1
    rw[Jfg key (by omega),hv]
    rw[←hv]at ha
    exact(JB (R:=fun x y=>key x≤key y) (f:=fun x:Kd key=>x.1)).1 ha
   | false =>
    rw[h2]at hs
    exact(Option.some.inj hs).symm
  let enc:Kd key→List Value:=fun x=>Xv u x.1
  have hk:∀x,(enc x).length=u.size:=fun x=>Qb5 xl
  have ib:∀l:List (Kd key),(l.map (·.1)).flatMap (Xv u)=l.flatMap enc:=fun l=>by rw[List.flatMap_map]
  have hw:∀x y:Kd key,IntKind.wrap .i64 (key x.1 - key y.1)=cfK key x y:=fun x y=>by
   have hx:=x.2
   have hy:=y.2
   simp only[kOk,QQ,decide_eq_true_eq]at hx hy
   exact Qx (by omega) (by omega)
  have bx:=AnyQ.slices_SortFunc_eq L u.size aE zE enc hk (fun x v hv=>Qh6 v hv) (cfK key) (Jpt key) g #[] blk 0 cap (Qah key xs).toArray w eg
   (fun m os dk _ x y=>by
    have:=hclo x.1 y.1 (sortWorldK enc u.size w blk 0 m dk os)
    rw[hw]at this
    exact this)
   (by unfold Sort.HoldsK; rw[Qqd hk,←ib,hv]; exact hH) hblk (by simp[ju]; exact h1.2)
  have kg:(Qah key xs).toArray.size=xs.length:=by simp[ju]
  rw[kg]at bx
  refine bx.mono ?_
  rintro e w' ⟨rfl,n,os,rfl⟩
  have hp:=Qt2 key (Qah key xs)
  refine⟨rfl,by rw[zu,List.length_map,hp.1.length_eq,ju],n,os,?_⟩
  unfold sortWorldK Sort.putRowK
  have e:Sort.pdq (ltK key) (Qah key xs).toArray 0 xs.length (Lib.bitLen xs.length) true true=(Qqa key (Qah key xs)).toArray:=by
   unfold Qqa; rw[ju]
  show Sort.grow (Sort.putRow id (Sort.ahead w n) blk 0 (Sort.flatK enc u.size (Sort.pdq (ltK key) (Qah key xs).toArray 0 xs.length (Lib.bitLen xs.length) true true))) os=_
  rw[e,Qqd hk,←ib,zu]
end
section
variable {P:Program} {ρ:Shelf.Ren}
theorem Qka(l:List Int):(l.flatMap (Xv (.int .i64)))=l.map (Value.int .i64):=by
 induction l with
 | nil=>rfl
 | cons x l ih=>rw[JA,ih]; rfl
theorem Q0d(L:Go.Proofs.SlLaysM.n5 P ρ){xs ys:List Int}(hs:Qt3 xs=some ys)(blk cap:Nat)(w:World)(hH:Sort.Holds id w blk 0 (xs.flatMap (Xv (.int .i64))).toArray)(hblk:blk<w.heap.size) :
  Calls P (ρ.f 5) #[.slice (some ⟨blk,0,none⟩) xs.length cap] w fun e w'=>e=.returned (.tuple #[])∧ys.length=xs.length∧∃n os,w'=Sort.grow (Sort.putRow id (Sort.ahead w n) blk 0 (ys.flatMap (Xv (.int .i64))).toArray) os:=by
 obtain⟨h1,h2⟩:=bvT hs
 have hy:=(Option.some.inj h2).symm
 rw[Qka]at hH ⊢
 refine(Go.Proofs.AnyM.slices_Sort_int L blk 0 cap xs w (Qj9 hH) hblk (of_decide_eq_true h1)).mono ?_
 rintro e w' ⟨rfl,n,os,rfl⟩
 rw[Qf4,Qmn (.refl _),←hy]
 refine⟨rfl,?_,n,os,rfl⟩
 rw[hy]
 exact(Nt xs).length_eq
theorem Qqe(L:Go.Proofs.Lays2.n20 P ρ){xs ys:List Int}(hs:Re xs=some ys)(blk cap:Nat)(w:World)(hH:Sort.Holds id w blk 0 (xs.flatMap (Xv (.int .i64))).toArray)(hblk:blk<w.heap.size)(wc:xs.length≤cap) :
  Calls P (ρ.f 20) #[.slice (some ⟨blk,0,none⟩) xs.length cap] w fun e w'=>e=.returned (.slice (some ⟨blk,0,none⟩) ys.length cap)∧ys.length≤xs.length ∧
   ∃n os zs,zs.length+ys.length*1≤xs.length*1∧w'=Sort.grow (Sort.putRow id (Sort.ahead w n) blk 0 (ys.flatMap (Xv (.int .i64))++zs).toArray) os:=by
 obtain⟨h1,h2⟩:=bvT hs
 have hy:=(Option.some.inj h2).symm
 rw[Qka]at hH ⊢
 have hle:(Lib.compact xs).length≤xs.length:=by
  grind [Lib.compact,Lib.compactUpTo,List.length_map,Nat.le_trans,List.length_filter_le]
 refine(Go.Proofs.Any.slices_Compact_int L blk 0 cap xs w (Qj9 hH) (of_decide_eq_true h1) wc).mono ?_
 rintro e w' ⟨rfl,q,rfl⟩
 rw[Qf4,QB,hy]
 exact⟨rfl,hle,q,#[],(List.replicate (xs.length - (Lib.compact xs).length) (0:Int)).map (Value.int .i64),by rw[List.length_map,XU]; omega,by rw[Sort.grow_empty]⟩
open Go.Proofs in
theorem Qr5(L:SlLaysH.n10 P ρ)(v23:∀w,(zeroValue (ρ.t 23)).run P w=.ok (.int .i64 0) w){g:Nat}{p:Int→Bool}(eg:∀args w,(callFunc g args).run P w=.ok (.enter g args) w)
  (hp:∀(x:Int) (W:World),Calls P g #[.int .i64 x] W fun e w'=>e=.returned (.bool (p x))∧∃q,w'=W.drewN q) {xs:List Int} (hl:xs.length≤9223372036854775807) (blk cap:Nat) (w:World) (hH:Sort.Holds id w blk 0 (xs.flatMap (Xv (.int .i64))).toArray) (hblk:blk<w.heap.size) (wc:xs.length≤cap) :
  Calls P (ρ.f 10) #[.slice (some ⟨blk,0,none⟩) xs.length cap,.func (.func g) #[] #[]] w fun e w'=>e=.returned (.slice (some ⟨blk,0,none⟩) (xs.filter fun x=>!p x).length cap)∧(xs.filter fun x=>!p x).length≤xs.length ∧
   ∃n os zs,zs.length+(xs.filter fun x=>!p x).length*1≤xs.length*1∧w'=Sort.grow (Sort.putRow id (Sort.ahead w n) blk 0 ((xs.filter fun x=>!p x).flatMap (Xv (.int .i64))++zs).toArray) os:=by
 rw[Qka]at hH ⊢
 have hle:=List.length_filter_le (fun x=>!p x) xs
 have hg:∀(x:Int) (W:World),FnGives P g #[] #[Value.int .i64 x] (.bool (p x)) W:=fun x W=>hp x W
 have h:=AnyE.slices_DeleteFunc L (Value.int .i64) (fun _=>rfl) p g #[] eg 0 v23 blk 0 cap xs.toArray w (fun W x _=>hg x W) (fun n os dk x _=>hg x _) (Qj9 hH) (by simpa using hl) (by simpa using wc)
 have kg:xs.toArray.size=xs.length:=by simp
 rw[kg]at h
 refine h.mono ?_
 rintro e w' ⟨rfl,q,rfl⟩
 rw[Qf4,QB]
 exact⟨rfl,hle,q,#[],(List.replicate (xs.length - (xs.filter fun x=>!p x).length) (0:Int)).map (Value.int .i64),by rw[List.length_map,XU]; omega,by rw[Sort.grow_empty]⟩
open Go.Proofs in
theorem Q0e(L:SlLaysH.n10 P ρ)(v23:∀w,(zeroValue (ρ.t 23)).run P w=.ok (.int .i64 0) w){g:Nat}{p:Int→Bool}(eg:∀args w,(callFunc g args).run P w=.ok (.enter g args) w)
  (hp:∀(x:Int) (W:World),Calls P g #[.int .i64 x] W fun e w'=>e=.returned (.bool (p x))∧∃q,w'=W.drewN q) {xs ys:List Int} (hs:Qt4 p xs=some ys) (blk cap:Nat) (w:World) (hH:Sort.Holds id w blk 0 (xs.flatMap (Xv (.int .i64))).toArray) (hblk:blk<w.heap.size) (wc:xs.length≤cap) :
  Calls P (ρ.f 10) #[.slice (some ⟨blk,0,none⟩) xs.length cap,.func (.func g) #[] #[]] w fun e w'=>e=.returned (.slice (some ⟨blk,0,none⟩) ys.length cap)∧ys.length≤xs.length ∧
   ∃n os zs,zs.length+ys.length*1≤xs.length*1∧w'=Sort.grow (Sort.putRow id (Sort.ahead w n) blk 0 (ys.flatMap (Xv (.int .i64))++zs).toArray) os:=by
 obtain⟨h1,h2⟩:=bvT hs
 have hy:=(Option.some.inj h2).symm
 rw[hy]
 exact Qr5 L v23 eg hp (of_decide_eq_true h1) blk cap w hH hblk wc
open Go.Proofs in
theorem Qr6(L:SlLaysH.n10 P ρ)(a:Option Addr)(w:World){fv:Value}:Calls P (ρ.f 10) #[.slice a 0 0,fv] w fun e w'=>e=.returned (.slice a 0 0)∧w'=w:=by
 have mixed:=L.mixed; have t0:=L.t0; have a0:=L.a0; have z0:=L.z0; have v0:=L.v0; have t3:=L.t3; have a3:=L.a3; have z3:=L.z3; have v3:=L.v3; have t4:=L.t4; have a4:=L.a4; have z4:=L.z4; have v4:=L.v4; have t22:=L.t22; have a22:=L.a22; have z22:=L.z22; have v22:=L.v22; have a23:=L.a23; have z23:=L.z23; have t25:=L.t25; have a25:=L.a25; have z25:=L.z25; have v25:=L.v25
 have e6:∀args w,(callFunc (ρ.f 6) args).run P w=.ok (.enter (ρ.f 6) args) w:=L.f6.enters rfl
 obtain⟨_,_,FG⟩:=L.f10
 go_enter FG,SlBodyH.n10_ntmps ρ
 go_wp2_with (go_at_fn (ρ.f 6); refine(AnyE.slices_IndexFunc_empty { L with } a 0 fv _).mono ?_; rintro e w' ⟨rfl,rfl⟩)
 go_ret
 exact⟨rfl,rfl⟩
end
theorem Ja2{α:Type}{key:α→Int}[Inhabited (Kd key)]{xs ys:List α}(h:xs=[])(hs:Qe8 key xs=some ys):ys=[]:=by
 subst h; exact List.Perm.eq_nil (Qqb key hs).1
theorem Ja3{xs ys:List Int}(h:xs=[])(hs:Qt3 xs=some ys):ys=[]:=by
 subst h
 obtain⟨_,h2⟩:=bvT hs
 exact(Option.some.inj h2).symm
theorem Qwo{xs ys:List Int}(h:xs=[])(hs:Re xs=some ys):ys=[]:=by
 subst h
 obtain⟨_,h2⟩:=bvT hs
 exact(Option.some.inj h2).symm
theorem Ja4{p:Int→Bool}{xs ys:List Int}(h:xs=[])(hs:Qt4 p xs=some ys):ys=[]:=by
 subst h
 obtain⟨_,h2⟩:=bvT hs
 grind
theorem Q7k(β:Nat→Nat)(ρ:Nat→Value)(ok:Ok)(w:World)(vs:List Value)(h:vs.length=([]:List Value).length+1)(xn:∀e∈([]:List En),∃cs,vs[e.t]?=some (e.av.val cs)∧cr β ρ ok w false e.av cs):∃v,vs=v::[]:=ZU.1 h
theorem Q7l{g:Nat}(β:Nat→Nat)(ρ:Nat→Value)(ok:Ok)(w:World)(vs:List Value)(h:vs.length=[Value.func (.func g) #[] #[]].length+1)(xn:∀e∈[(⟨1,[],.f g .nil⟩:En)],∃cs,vs[e.t]?=some (e.av.val cs)∧cr β ρ ok w false e.av cs):∃v,vs=v::[Value.func (.func g) #[] #[]]:=by
 obtain⟨cs,h1,ws,h2,h3⟩:=xn _ (.head _)
 have h3:ws=[]:=h3
 subst h3 h2
 obtain⟨a,b,rfl⟩:∃a b,vs=[a,b]:=by
  match vs,h with
  | [a,b],_=>grind
 have h1:b=Value.func (.func g) #[] #[]:=Option.some.inj h1
 grind
end Gx
