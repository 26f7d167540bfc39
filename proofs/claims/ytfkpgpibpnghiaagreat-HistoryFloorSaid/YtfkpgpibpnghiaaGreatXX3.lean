/- What library functions make of rows: slices.SortFunc, Sort, Compact, DeleteFunc. -/
import Derived.Test.YtfkpgpibpnghiaaGreatXRl
import Derived.Sort.AssemblyPlain
import Derived.Lib.SlicesCompact
import Derived.Test.YtfkpgpibpnghiaaGreatXRc
import Derived.Test.YtfkpgpibpnghiaaGreatGRows
import Derived.Shelf.SlSortCmp.WholeK
import Derived.Shelf.SlSortCmp.NoneTotal
import Derived.Shelf.SortM.Plain
import Derived.Shelf.Slices.CompactI
import Derived.Shelf.SlicesE.DeleteFunc
namespace Gx
open Go Go.RowKit Gd
set_option linter.unusedVariables false
set_option linter.unusedSimpArgs false
def kOk(z:Int):Bool:=decide (-2305843009213693952≤z)&&decide (z≤2305843009213693952)
section
variable {α:Type} (key:α→Int)
abbrev Kd:Type:={x:α // kOk (key x)=true}
def cfK(x y:Kd key):Int:=key x.1 - key y.1
def ltK(x y:Kd key):Bool:=decide (cfK key x y<0)
def Qad(xs:List α):List (Kd key):=xs.filterMap fun x=>if h:kOk (key x)=true then some ⟨x,h⟩else none
theorem Qj4:∀{xs:List α},xs.all (fun x=>kOk (key x))=true→(Qad key xs).map (·.1)=xs
 | [],_=>rfl
 | x::xs,h=>by
  simp only[XX,QQ]at h
  have:=Qj4 h.2
  simp_all [Qad,JU,dif_pos,QP]
def Q4q:List α→Bool
 | x::y::l=>decide (key x≤key y)&&Q4q (y::l)
 | _=>true
theorem Qwi:∀{l:List α},Q4q key l=true→l.Pairwise fun x y=>key x≤key y
 | [],_=>.nil
 | [x],_=>ZW _ _
 | x::y::l,h=>by
  simp only[Q4q,QQ,decide_eq_true_eq]at h
  have ih:=Qwi h.2
  refine List.pairwise_cons.2 ⟨fun z hz=>?_,ih⟩
  rcases QJ.1 hz with rfl | hz
  ·exact h.1
  grind [Int.le_trans,List.pairwise_cons]
theorem Jpg:Sort.SWO (ltK key) where
 irrefl x:=by simp[ltK,cfK]
 trans x y z h1 h2:=by
  have h1:=of_decide_eq_true h1
  have h2:=of_decide_eq_true h2
  exact decide_eq_true (by grind [cfK])
 ntrans x y z h1 h2:=by
  have h1:=of_decide_eq_false h1
  have h2:=of_decide_eq_false h2
  exact decide_eq_false (by grind [cfK])
variable [Inhabited (Kd key)]
def Qp5(xs:List (Kd key)):List (Kd key):=(Sort.pdq (ltK key) xs.toArray 0 xs.length (Lib.bitLen xs.length) true true).toList
def Qe4(xs:List α):Option (List α) :=
 bif xs.all (fun x=>kOk (key x))&&decide (xs.length<4611686018427387904)then(bif Nat.ble xs.length 12&&Q4q key xs then some xs else some ((Qp5 key (Qad key xs)).map (·.1)))else none
theorem Qty(xs:List (Kd key)):(Qp5 key xs).Perm xs∧(Qp5 key xs).Pairwise fun x y=>key x.1≤key y.1:=by
 have h:=Sort.pdq_sorts (ltK key) (Jpg key) xs.toArray 0 xs.toArray.size (Lib.bitLen xs.length) true true (QM _) (QU _) (.inl rfl)
 obtain⟨⟨h1,_,h2⟩,h3⟩:=h
 have kj:xs.toArray.size=xs.length:=by simp
 rw[kj]at h1 h2 h3
 constructor
 ·have e1:∀a:Array (Kd key),a.size=xs.length→(a.extract 0 xs.length).toList=a.toList:=fun a ha=>by
   rw[←ha]; simp
  rw[e1 _ h1,e1 _ kj]at h2
  exact h2
 ·refine XT.2 fun i j hi hj vk=>?_
  have hl:(Qp5 key xs).length=xs.length:=by grind [Qp5,Array.length_toList]
  have:=h3 i j (QM _) vk (by omega)
  have this:=of_decide_eq_false this
  grind [cfK,Qp5,Sort.pdq,ltK,Lib.bitLen]
theorem Qp6{xs ys:List α}(h:Qe4 key xs=some ys):ys.Perm xs∧ys.Pairwise fun x y=>key x≤key y:=by
 unfold Qe4 at h
 cases h1:(xs.all (fun x=>kOk (key x))&&decide (xs.length<4611686018427387904))with
 | false=>rw[h1]at h; cases h
 | true =>
  rw[h1]at h
  simp only[QQ]at h1
  cases h2:(Nat.ble xs.length 12&&Q4q key xs)with
  | true =>
   rw[h2]at h
   obtain rfl:=Option.some.inj h
   simp only[QQ]at h2
   exact⟨.refl _,Qwi key h2.2⟩
  | false =>
   rw[h2]at h
   obtain rfl:=Option.some.inj h
   have hs:=Qty key (Qad key xs)
   grind [Qj4]
theorem Qwj{β:Type}[Inhabited β]{lt:β→β→Bool}{d:Array β}(h:∀j,lt d[j+1]! d[j]! = false∨d.size≤j+1)(a:Nat):∀j,j<d.size→Sort.insInner lt a j d=d
 | 0,_=>rfl
 | j+1,hj=>by
  grind [Sort.insInner]
theorem Qh1{β:Type}[Inhabited β]{lt:β→β→Bool}{d:Array β}(h:∀j,lt d[j+1]! d[j]! = false∨d.size≤j+1)(a b:Nat)(hb:b≤d.size):∀(k i:Nat),b - i≤k→Sort.insOuter lt a b i d=d
 | 0,i,hk=>by rw[Sort.insOuter,if_neg (by omega)]
 | k+1,i,hk=>by
  rw[Sort.insOuter]
  split
  ·rw[Qwj h a i (by omega)]
   exact Qh1 h a b hb k (i+1) (by omega)
  ·rfl
theorem Je4{xs:List (Kd key)}(h12:xs.length≤12)(ha:xs.Pairwise fun x y=>key x.1≤key y.1):Qp5 key xs=xs:=by
 unfold Qp5
 rw[Sort.pdq,if_pos (by omega)]
 unfold Sort.insertionSort
 rw[Qh1 (fun j=>?_) 0 xs.length (by simp) xs.length 1 (by omega)]
 rcases Nat.lt_or_ge (j+1) xs.length with hj | hj
 ·left
  rw[getElem!_pos xs.toArray (j+1) (by simpa using hj),getElem!_pos xs.toArray j (by simp; omega)]
  have:=XT.1 ha j (j+1) (by omega) hj (by omega)
  refine decide_eq_false ?_
  grind [cfK]
 grind
end
instance kdFst {β:Type} [Inhabited β]:Inhabited (Kd fun x:Int×β=>x.1):=⟨⟨(0,default),rfl⟩⟩
def Qtz(xs:List Int):Option (List Int):=bif decide (xs.length<4611686018427387904)then some (Qj2 xs)else none
def Rb(xs:List Int):Option (List Int):=bif decide (xs.length≤9223372036854775807)then some (Lib.compact xs)else none
def Qt0(p:Int→Bool)(xs:List Int):Option (List Int):=bif decide (xs.length≤9223372036854775807)then some (xs.filter fun x=>!p x)else none
end Gx

/- Rows that library functions sort or shorten, by the kit's contracts: slices.SortFunc, Sort, Compact, DeleteFunc. -/
namespace Gx
open Go Go.RowKit Gd
set_option linter.unusedVariables false
set_option linter.unusedSimpArgs false
def Nr:Ty→Bool
 | .int _=>true
 | .bool=>true
 | .pr a b=>Nr a&&Nr b
 | .st a=>Nr a
 | _=>false
def Xt:(t:Ty)→t.De→List Value
 | .int k,x=>[.int k x]
 | .bool,x=>[.bool x]
 | .pr a b,x=>Xt a x.1++Xt b x.2
 | .st a,x=>Xt a x
 | _,_=>[]
theorem Qb2:∀{t:Ty} {x:t.De},Nr t=true→(Xt t x).length=t.size
 | .int _,x,_=>rfl
 | .bool,x,_=>rfl
 | .pr a b,x,h=>by
  simp only[Nr,QQ]at h
  simp[Xt,Ty.size,Qb2 h.1,Qb2 h.2]
 | .st a,x,h=>Qb2 (t:=a) h
theorem Qh2:∀{t:Ty} {x:t.De},∀v∈Xt t x,v.oneCell'=true
 | .int _,x,v,h=>by simp[Xt]at h; subst h; rfl
 | .bool,x,v,h=>by simp[Xt]at h; subst h; rfl
 | .pr a b,x,v,h=>by
  rcases QX.1 (show v∈Xt a x.1++Xt b x.2 from h)with h | h
  ·exact Qh2 v h
  ·exact Qh2 v h
 | .st a,x,v,h=>Qh2 (t:=a) v h
 | .str,x,v,h=>by cases h
 | .sl _,x,v,h=>by cases h
 | .arr _ _,x,v,h=>by cases h
 | .unit,x,v,h=>by cases h
 | .ref,x,v,h=>by cases h
 | .rose _,x,v,h=>by cases h
theorem Lr{ok:Ok}{w:World}:∀{t:Ty} {x:t.De} {cs:List Value},Nr t=true→((rt t).rep ok w x cs↔cs=Xt t x)
 | .int _,x,cs,_=>Iff.rfl
 | .bool,x,cs,_=>Iff.rfl
 | .pr a b,x,cs,h=>by
  simp only[Nr,QQ]at h
  constructor
  ·rintro⟨c1,c2,e,h1,h2⟩
   rw[e,(Lr h.1).1 h1,(Lr h.2).1 h2]; rfl
  ·rintro rfl
   exact⟨_,_,rfl,(Lr h.1).2 rfl,(Lr h.2).2 rfl⟩
 | .st a,x,cs,h=>Lr (t:=a) h
theorem Qdz{u:Ty}(xk:Nr u=true){ok:Ok}{w:World}:∀{xs:List u.De} {cs:List Value},Ks (rt u) ok w xs cs↔cs=xs.flatMap (Xt u)
 | [],cs=>by simp[Ks]
 | x::xs,cs=>by
  constructor
  ·rintro⟨c1,c2,e,h1,h2⟩
   rw[e,(Lr xk).1 h1,(Qdz xk).1 h2]; rfl
  ·rintro rfl
   exact⟨_,_,rfl,(Lr xk).2 rfl,(Qdz xk).2 rfl⟩
theorem Qb3{u:Ty}(xk:Nr u=true):∀xs:List u.De,(xs.flatMap (Xt u)).length=xs.length*u.size
 | []=>by simp
 | x::xs=>by simp[JA,Qb2 xk,Qb3 xk xs,Nat.add_mul,XD]
theorem Qny{u:Ty}(xk:Nr u=true){v:Value}{e:TypeId}{ys:List u.De}{w:World}{ok:Ok}(hl:K0 v=ys.length)(h:w.ownsRowS 0 e u.size v ys.length (ys.flatMap (Xt u))):(ml v e (rt u) ys).p ok w:=by
 refine⟨hl,_,?_,(Qdz xk).2 rfl⟩
 rw[hl,Jp]; exact h
theorem Qt1{u:Ty}(xk:Nr u=true){v0 v:Value}{e:TypeId}{xs:List u.De}{ok:Ok}{w:World}(h:(ml v0 e (rt u) xs).p ok w)(hz:zal v v0) :
  (xs=[]∧v0=.slice none 0 0∧∃p,v=.slice p 0 0) ∨
  (∃g cap cur fz,v=v0∧v0=.slice (some ⟨g,0,none⟩) xs.length cap∧w.heap[g]?=some (.cells cur e fz)∧Qvf fz cur.size∧xs.length≤cap∧cap≤maxLen∧cap*u.size≤cur.size∧cur.toList.take (xs.length*u.size)=xs.flatMap (Xt u)):=by
 obtain⟨hl,cs,kb,hr⟩:=h
 have z6:=(Qdz xk).1 hr
 rw[Jp]at kb
 have ur:v0=.slice none 0 0→xs=[]:=fun h0=>by
  subst h0
  exact List.length_eq_zero_iff.1 (by rw[←hl]; rfl)
 rcases kb.2 with⟨hv,h0⟩ | ⟨g,cap,cur,fz,hv,_,hg,z8,py,pz,ju,ht⟩
 ·left
  refine⟨ur hv,hv,?_⟩
  rcases hz with rfl | ⟨_,A,rfl⟩
  ·grind
  ·exact⟨A,rfl⟩
 ·right
  rcases hz with rfl | ⟨hn,A,rfl⟩
  ·rw[hl]at hv py ht
   grind
  grind
theorem Qt2{w:World}{g:Nat}{cur:Array Value}{e:TypeId}{fz:Nat×Nat}(hg:w.heap[g]?=some (.cells cur e fz))(z8:Qvf fz cur.size){F:List Value}(hF:cur.toList.take F.length=F)(hle:F.length≤cur.size):Sort.Holds id w g 0 F.toArray:=by
 intro j hj
 have fb:j<F.length:=by simpa using hj
 have hjc:j<cur.size:=by omega
 have h1:F[j]?=cur[j]?:=by
  grind
 have h2:F.toArray[j]! = cur[j]:=by
  rw[getElem!_pos F.toArray j hj]
  rw[List.getElem?_eq_getElem fb,JI hjc]at h1
  grind
 rw[h2,QK]
 refine⟨by grind [World.cell?],?_⟩
 rcases z8 with rfl | rfl
 ·simp[World.frozen?,hg]
 grind [World.frozen?,Bool.and_eq_false_iff,decide_eq_false_iff_not]
theorem Qp7{w:World}{g n:Nat}{cur:Array Value}{e:TypeId}{fz:Nat×Nat}(hg:w.heap[g]?=some (.cells cur e fz)){F:List Value}(hle:F.length≤cur.size)(os:Array Obj) :
  ∃cur',(Sort.grow (Sort.putRow id (Sort.ahead w n) g 0 F.toArray) os).heap[g]?=some (.cells cur' e fz)∧cur'.size=cur.size∧cur'.toList.take F.length=F:=by
 have hlt:=Y9 hg
 refine⟨Sort.putCells id 0 F.toArray cur,?_,by simp[Sort.putCells],?_⟩
 ·rw[Sort.heap_grow_old _ _ (by rw[Sort.size_putRow]; exact hlt)]
  unfold Sort.putRow Sort.mapBlock
  show(Array.modify w.heap g _)[g]?=_
  rw[ZF,if_pos rfl,hg]; rfl
 ·refine ZZ fun j=>?_
  rcases Nat.lt_or_ge j F.length with hj | hj
  ·rw[List.getElem?_take_of_lt hj]
   have hjc:j<cur.size:=by omega
   simp only[Sort.putCells,Array.getElem?_toList,Array.getElem?_mapIdx,JI hjc,JS]
   rw[if_pos ⟨QM _,by simpa using hj⟩,List.getElem?_eq_getElem hj]
   grind
  grind
theorem Q4r{w:World}{g n:Nat}{F:Array Value}(os:Array Obj){k:Nat}(hk:k<w.heap.size)(zk:k≠g):(Sort.grow (Sort.putRow id (Sort.ahead w n) g 0 F) os).heap[k]?=w.heap[k]?:=by
 rw[Sort.heap_grow_old _ _ (by rw[Sort.size_putRow]; exact hk)]
 unfold Sort.putRow Sort.mapBlock
 show(Array.modify w.heap g _)[k]?=_
 rw[ZF,if_neg (Ne.symm zk)]
theorem Qt3{w:World}{g n:Nat}{F:Array Value}{L:List Nat}(os:Array Obj)(hg:g∈L):Uv L w.heap.size w (Sort.grow (Sort.putRow id (Sort.ahead w n) g 0 F) os) :=
 ⟨rfl,rfl,rfl,by rw[Sort.size_grow,Sort.size_putRow]; simp_all,fun k hk hn=>Q4r os hk fun h=>hn (h▸hg)⟩
section
variable {P:Program} {gl:List (Nat×Σ t:Ty,t.De)}
theorem Qt4{c:Con}{e:TypeId}{u:Ty}(xk:Nr u=true)(fx:c.Γ.De→List u.De)(fy:Qa3 c.Δ→List u.De){ev:List En}{vx:List Value}(hro:c.ro=[])
  (hm:∀x,enc c.Γ x=⟨⟨0,[],.s 5000⟩::ev,[(5000,.row e u (fx x))]⟩) (zz:∀y,Qbr c.Δ y=⟨[],[(5000,.row e u (fy y))]⟩) (hle:c.Γ.env.length=vx.length+1)
  (xm:∀(β:Nat→Nat) (ρ:Nat→Value) (ok:Ok) (w:World) (vs:List Value),vs.length=vx.length+1→(∀e∈ev,∃cs,vs[e.t]?=some (e.av.val cs)∧cr β ρ ok w false e.av cs)→∃v,vs=v::vx)
  (qg:∀x y,fx x=[]→c.fn x=some y→fy y=[])
  (hcn:∀p w,Calls P c.f ⟨.slice p 0 0::vx⟩ w fun e w'=>e=.returned (.tuple #[])∧w'=w)
  (z6:∀x y,c.fn x=some y→∀g cap w,Sort.Holds id w g 0 ((fx x).flatMap (Xt u)).toArray→g<w.heap.size→(fx x).length≤cap→Calls P c.f ⟨.slice (some ⟨g,0,none⟩) (fx x).length cap::vx⟩ w fun e w' =>
   e=.returned (.tuple #[])∧(fy y).length=(fx x).length∧∃n os,w'=Sort.grow (Sort.putRow id (Sort.ahead w n) g 0 ((fy y).flatMap (Xt u)).toArray) os):Qe1 P gl c:=by
 intro ok w L β ρ x y vs kn hG hlen hL zt hy
 rw[hm x]at hL zt
 have hO:Qla [ml (ρ 5000) e (rt u) (fx x)] L ok w:=hL
 have h0:=hO.1 _ (.head _)
 obtain⟨v,rfl⟩:=xm β ρ ok w vs (by rw[hlen,hle]) fun e he=>zt e (.tail _ he)
 obtain⟨cs,q1,q2⟩:=zt _ (.head _)
 obtain⟨⟨v1,rfl,hz⟩,_⟩:(∃v,cs=[v]∧zal v (ρ 5000))∧∃A n c,ρ 5000=.slice A n c:=q2
 obtain rfl:v=v1:=Option.some.inj (show some v=some v1 from q1)
 have ke:∀ρ':Nat→Value,Qi β ρ' ((Qbr c.Δ y).mem++roM c x)=[ml (ρ' 5000) e (rt u) (fy y)]:=fun ρ'=>by
  have:roM c x=[]:=by unfold roM; rw[hro,hm x]; rfl
  rw[this,zz y]; rfl
 have xp:∃cs,(Value.tuple #[])=(P1 (Qbr c.Δ y).env).val cs∧∀β' ρ' ok' w',cr β' ρ' ok' w' false (P1 (Qbr c.Δ y).env) cs:=by
  rw[zz y]
  exact⟨[.tuple #[]],rfl,fun _ _ _ _=>⟨[],rfl,rfl⟩⟩
 obtain⟨cs,r1,r2⟩:=xp
 rcases Qt1 xk h0.1 hz with⟨hx,xg,p,rfl⟩ | ⟨g,cap,cur,fz,rfl,xg,hg,z8,k1,k2,k3,k4⟩
 ·refine(hcn p w).mono ?_
  rintro e1 w' ⟨rfl,rfl⟩
  have bu:=qg x y hx hy
  refine⟨_,rfl,⟨β,ρ,fun i hi=>⟨rfl,rfl⟩,⟨cs,r1,r2 _ _ _ _⟩,?_,?_⟩,Uv.refl _ _ _⟩
  ·rw[ke]
   intro t ht
   rcases JW.1 ht with rfl
   refine⟨Qny xk (by rw[xg,bu]; rfl) (by rw[xg,bu]; exact World.ownsRowS_nil _ _ _ _),fun g hg=>?_⟩
   rw[show(ml (ρ 5000) e (rt u) (fy y)).blks g=((ρ 5000).ownBlock=some g)from rfl,xg]at hg
   cases hg
  ·rw[ke]; grind
 ·have hgL:g∈L:=h0.2.1 g (by show(ρ 5000).ownBlock=some g; rw[xg]; rfl)
  have ly:=Qb3 xk (fx x)
  have pq:(fx x).length*u.size≤cur.size:=Nat.le_trans (QD _ k1) k3
  have yn:=z6 x y hy g cap w (Qt2 hg z8 (by rw[ly]; exact k4) (by rw[ly]; exact pq)) (Y9 hg) k1
  rw[←xg]at yn
  refine yn.mono ?_
  rintro e1 w' ⟨rfl,rp,n,os,rfl⟩
  have pt:=Qb3 xk (fy y)
  obtain⟨cur',c1,c2,c3⟩:=Qp7 (n:=n) hg (F:=(fy y).flatMap (Xt u)) (by rw[pt,rp]; exact pq) os
  refine⟨_,rfl,⟨β,ρ,fun i hi=>⟨rfl,rfl⟩,⟨cs,r1,r2 _ _ _ _⟩,?_,?_⟩,Qt3 os hgL⟩
  ·rw[ke]
   intro t ht
   rcases JW.1 ht with rfl
   refine⟨Qny xk (by rw[xg]; exact rp.symm) ?_,fun g' ya=>.inr ?_⟩
   ·exact⟨pt,.inr ⟨g,cap,cur',fz,by rw[xg,rp],QM _,c1,by rw[c2]; exact z8,by omega,k2,by rw[c2]; exact k3,by rw[←pt]; exact c3⟩⟩
   ·rw[show(ml (ρ 5000) e (rt u) (fy y)).blks g'=((ρ 5000).ownBlock=some g')from rfl,xg]at ya
    rw[show(Value.slice (some ⟨g,0,none⟩) (fx x).length cap).ownBlock=some g from rfl]at ya
    grind
  ·rw[ke]; grind
theorem Qt5{c:Con}{e:TypeId}{u:Ty}(xk:Nr u=true)(fx:c.Γ.De→List u.De)(fy:Qa3 c.Δ→List u.De){ev:List En}{vx:List Value}(hro:c.ro=[])
  (hm:∀x,enc c.Γ x=⟨⟨0,[],.s 5000⟩::ev,[(5000,.row e u (fx x))]⟩) (zz:∀y,Qbr c.Δ y=⟨[⟨0,[],.s 0⟩],[(0,.row e u (fy y))]⟩) (hle:c.Γ.env.length=vx.length+1) (hid:c.Γ.mem.map Prod.fst=[5000])
  (xm:∀(β:Nat→Nat) (ρ:Nat→Value) (ok:Ok) (w:World) (vs:List Value),vs.length=vx.length+1→(∀e∈ev,∃cs,vs[e.t]?=some (e.av.val cs)∧cr β ρ ok w false e.av cs)→∃v,vs=v::vx)
  (qg:∀x y,fx x=[]→c.fn x=some y→fy y=[])
  (hcn:∀p w,Calls P c.f ⟨.slice p 0 0::vx⟩ w fun e w'=>e=.returned (.slice p 0 0)∧w'=w)
  (z6:∀x y,c.fn x=some y→∀g cap w,Sort.Holds id w g 0 ((fx x).flatMap (Xt u)).toArray→g<w.heap.size→(fx x).length≤cap→Calls P c.f ⟨.slice (some ⟨g,0,none⟩) (fx x).length cap::vx⟩ w fun e w' =>
   e=.returned (.slice (some ⟨g,0,none⟩) (fy y).length cap)∧(fy y).length≤(fx x).length∧∃n os zs,zs.length+(fy y).length*u.size≤(fx x).length*u.size∧w'=Sort.grow (Sort.putRow id (Sort.ahead w n) g 0 ((fy y).flatMap (Xt u)++zs).toArray) os):Qe1 P gl c:=by
 intro ok w L β ρ x y vs kn hG hlen hL zt hy
 rw[hm x]at hL zt
 have hO:Qla [ml (ρ 5000) e (rt u) (fx x)] L ok w:=hL
 have h0:=hO.1 _ (.head _)
 obtain⟨v,rfl⟩:=xm β ρ ok w vs (by rw[hlen,hle]) fun e he=>zt e (.tail _ he)
 obtain⟨cs,q1,q2⟩:=zt _ (.head _)
 obtain⟨⟨v1,rfl,hz⟩,_⟩:(∃v,cs=[v]∧zal v (ρ 5000))∧∃A n c,ρ 5000=.slice A n c:=q2
 obtain rfl:v=v1:=Option.some.inj (show some v=some v1 from q1)
 have ke:∀ρ':Nat→Value,Qi β ρ' ((Qbr c.Δ y).mem++roM c x)=[ml (ρ' 0) e (rt u) (fy y)]:=fun ρ'=>by
  have:roM c x=[]:=by unfold roM; rw[hro,hm x]; rfl
  rw[this,zz y]; rfl
 have xh:∀r:Value,agP (c.Γ.mem.map Prod.fst) β β ρ (fun i=>if i=0 then r else ρ i):=fun r i hi=>by
  rw[hid]at hi
  grind
 rcases Qt1 xk h0.1 hz with⟨hx,xg,p,rfl⟩ | ⟨g,cap,cur,fz,rfl,xg,hg,z8,k1,k2,k3,k4⟩
 ·refine(hcn p w).mono ?_
  rintro e1 w' ⟨rfl,rfl⟩
  have bu:=qg x y hx hy
  refine⟨_,rfl,⟨β,_,xh (.slice none 0 0),⟨[.slice p 0 0],?_,?_⟩,?_,?_⟩,Uv.refl _ _ _⟩
  ·rw[zz y]; rfl
  ·rw[zz y]
   exact⟨⟨_,rfl,.inr ⟨rfl,_,rfl⟩⟩,none,0,0,rfl⟩
  ·rw[ke]
   intro t ht
   rcases JW.1 ht with rfl
   refine⟨Qny xk (by rw[bu]; rfl) (by rw[bu]; exact World.ownsRowS_nil _ _ _ _),fun g hg=>?_⟩
   cases hg
  ·rw[ke]; grind
 ·have hgL:g∈L:=h0.2.1 g (by show(ρ 5000).ownBlock=some g; rw[xg]; rfl)
  have ly:=Qb3 xk (fx x)
  have pq:(fx x).length*u.size≤cur.size:=Nat.le_trans (QD _ k1) k3
  have yn:=z6 x y hy g cap w (Qt2 hg z8 (by rw[ly]; exact k4) (by rw[ly]; exact pq)) (Y9 hg) k1
  rw[←xg]at yn
  refine yn.mono ?_
  rintro e1 w' ⟨rfl,rp,n,os,zs,y9,rfl⟩
  have pt:=Qb3 xk (fy y)
  obtain⟨cur',c1,c2,c3⟩:=Qp7 (n:=n) hg (F:=(fy y).flatMap (Xt u)++zs) (by rw[List.length_append,pt]; omega) os
  have c4:cur'.toList.take ((fy y).length*u.size)=(fy y).flatMap (Xt u):=by
   have:=congrArg (List.take ((fy y).length*u.size)) c3
   rw[XY,Nat.min_eq_left (by rw[List.length_append,pt]; omega),←pt,List.take_left]at this
   rw[←pt]; exact this
  refine⟨_,rfl,⟨β,_,xh (.slice (some ⟨g,0,none⟩) (fy y).length cap),⟨[.slice (some ⟨g,0,none⟩) (fy y).length cap],?_,?_⟩,?_,?_⟩,Qt3 os hgL⟩
  ·rw[zz y]; rfl
  ·rw[zz y]
   exact⟨⟨_,rfl,.inl rfl⟩,_,_,_,rfl⟩
  ·rw[ke]
   intro t ht
   rcases JW.1 ht with rfl
   refine⟨Qny xk rfl ?_,fun g' ya=>.inr ?_⟩
   ·exact⟨pt,.inr ⟨g,cap,cur',fz,rfl,QM _,c1,by rw[c2]; exact z8,by omega,k2,by rw[c2]; exact k3,c4⟩⟩
   ·have ya:(some g:Option Nat)=some g':=ya
    grind
  ·rw[ke]; grind
end
theorem Qlr{α:Type}{enc:α→List Value}{k:Nat}(hk:∀x,(enc x).length=k):∀(l:List α) (i c:Nat),c<k→(l.flatMap enc)[i*k+c]?=(l[i]?).bind fun x=>(enc x)[c]?
 | [],i,c,_=>by simp
 | x::l,0,c,h=>by
  rw[JA,JG (by rw[hk]; omega)]; simp
 | x::l,i+1,c,h=>by
  have e:(i+1)*k+c=k+(i*k+c):=by rw[Nat.add_mul]; omega
  rw[JA,JD (by rw[hk,e]; omega),hk,e,JM,Qlr hk l i c h]; simp
theorem Qls{α:Type}{enc:α→List Value}{k:Nat}(hk:∀x,(enc x).length=k):∀l:List α,(l.flatMap enc).length=l.length*k
 | []=>by simp
 | x::l=>by simp[JA,hk,Qls hk l,Nat.add_mul,XD]
theorem Qp8{α:Type}[Inhabited α]{enc:α→List Value}{k:Nat}(hk:∀x,(enc x).length=k)(l:List α):Sort.flatK enc k l.toArray=(l.flatMap enc).toArray:=by
 have hlen:=Qls hk l
 refine Sort.ext_get! (by simp[hlen]) fun t ht=>?_
 have k9:t<l.length*k:=by simpa using ht
 have k0:0<k:=by
  grind
 have e2:=Qlr hk l (t / k) (t % k) (Nat.mod_lt _ k0)
 have hi:t / k<l.length:=Nat.div_lt_of_lt_mul (by rwa[Nat.mul_comm])
 have hc:t % k<(enc l[t / k]).length:=by rw[hk]; exact Nat.mod_lt _ k0
 rw[Nat.div_add_mod',List.getElem?_eq_getElem hi,QW,List.getElem?_eq_getElem hc,List.getElem?_eq_getElem (by rw[hlen]; exact k9)]at e2
 rw[Sort.get_flatK enc k l.toArray t (by simpa using k9)]
 grind
theorem Qf0{α:Type}[Inhabited α](enc:α→Value)(w:World)(g off:Nat)(l:List α):Sort.putRow enc w g off l.toArray=Sort.putRow id w g off (l.map enc).toArray:=by
 unfold Sort.putRow
 congr 1
 funext c
 unfold Sort.putCells
 grind
theorem Qj5{α:Type}[Inhabited α]{enc:α→Value}{w:World}{g off:Nat}{l:List α}(h:Sort.Holds id w g off (l.map enc).toArray):Sort.Holds enc w g off l.toArray:=by
 intro j hj
 have fb:j<l.length:=by simpa using hj
 have:=h j (by simpa using fb)
 rw[getElem!_pos (l.map enc).toArray _ (by simpa using fb)]at this
 rw[getElem!_pos l.toArray _ hj]
 grind
section
variable {P:Program} {ρ:Shelf.Ren}
open Go.Proofs in
theorem Qz9{u:Ty}(xk:Nr u=true)(key:u.De→Int)[Inhabited (Kd key)](L:SlLaysF0.n6 P ρ)(aE:∀w,(isAgg (ρ.t 24)).run P w=.ok true w)(zE:∀w,(Go.sizeOf (ρ.t 24)).run P w=.ok u.size w){g:Nat}
  (eg:∀args w,(callFunc g args).run P w=.ok (.enter g args) w)
  (hclo:∀(x y:u.De) (W:World),Calls P g #[.agg (Xt u x).toArray,.agg (Xt u y).toArray] W fun e w'=>e=.returned (.int .i64 (IntKind.wrap .i64 (key x - key y)))∧∃q os',w'=Sort.grow (W.drewN q) os')
  {xs ys:List u.De} (hs:Qe4 key xs=some ys) (blk cap:Nat) (w:World) (hH:Sort.Holds id w blk 0 (xs.flatMap (Xt u)).toArray) (hblk:blk<w.heap.size) :
  Calls P (ρ.f 6) #[.slice (some ⟨blk,0,none⟩) xs.length cap,.func (.func g) #[] #[]] w fun e w'=>e=.returned (.tuple #[])∧ys.length=xs.length∧∃n os,w'=Sort.grow (Sort.putRow id (Sort.ahead w n) blk 0 (ys.flatMap (Xt u)).toArray) os:=by
 unfold Qe4 at hs
 cases h1:(xs.all (fun x=>kOk (key x))&&decide (xs.length<4611686018427387904))with
 | false=>rw[h1]at hs; cases hs
 | true =>
  rw[h1]at hs
  simp only[QQ,decide_eq_true_eq]at h1
  have hv:=Qj4 key h1.1
  have jr:(Qad key xs).length=xs.length:=by rw[←congrArg List.length hv]; simp
  have zw:ys=(Qp5 key (Qad key xs)).map (·.1):=by
   cases h2:(Nat.ble xs.length 12&&Q4q key xs)with
   | true =>
    rw[h2]at hs
    obtain rfl:=Option.some.inj hs
    simp only[QQ]at h2
    have ha:=Qwi key h2.2
    have h12:=QV h2.1
    rw[Je4 key (by omega),hv]
    rw[←hv]at ha
    exact(JB (R:=fun x y=>key x≤key y) (f:=fun x:Kd key=>x.1)).1 ha
   | false =>
    rw[h2]at hs
    exact(Option.some.inj hs).symm
  let enc:Kd key→List Value:=fun x=>Xt u x.1
  have hk:∀x,(enc x).length=u.size:=fun x=>Qb2 xk
  have jx:∀l:List (Kd key),(l.map (·.1)).flatMap (Xt u)=l.flatMap enc:=fun l=>by rw[List.flatMap_map]
  have hw:∀x y:Kd key,IntKind.wrap .i64 (key x.1 - key y.1)=cfK key x y:=fun x y=>by
   have hx:=x.2
   have hy:=y.2
   simp only[kOk,QQ,decide_eq_true_eq]at hx hy
   exact Qx (by omega) (by omega)
  have bw:=AnyQ.slices_SortFunc_eq L u.size aE zE enc hk (fun x v hv=>Qh2 v hv) (cfK key) (Jpg key) g #[] blk 0 cap (Qad key xs).toArray w eg
   (fun m os dk _ x y=>by
    have:=hclo x.1 y.1 (sortWorldK enc u.size w blk 0 m dk os)
    rw[hw]at this
    exact this)
   (by unfold Sort.HoldsK; rw[Qp8 hk,←jx,hv]; exact hH) hblk (by simp[jr]; exact h1.2)
  have kj:(Qad key xs).toArray.size=xs.length:=by simp[jr]
  rw[kj]at bw
  refine bw.mono ?_
  rintro e w' ⟨rfl,n,os,rfl⟩
  have hp:=Qty key (Qad key xs)
  refine⟨rfl,by rw[zw,List.length_map,hp.1.length_eq,jr],n,os,?_⟩
  unfold sortWorldK Sort.putRowK
  have e:Sort.pdq (ltK key) (Qad key xs).toArray 0 xs.length (Lib.bitLen xs.length) true true=(Qp5 key (Qad key xs)).toArray:=by
   unfold Qp5; rw[jr]
  show Sort.grow (Sort.putRow id (Sort.ahead w n) blk 0 (Sort.flatK enc u.size (Sort.pdq (ltK key) (Qad key xs).toArray 0 xs.length (Lib.bitLen xs.length) true true))) os=_
  rw[e,Qp8 hk,←jx,zw]
end
section
variable {P:Program} {ρ:Shelf.Ren}
theorem Qj6(l:List Int):(l.flatMap (Xt (.int .i64)))=l.map (Value.int .i64):=by
 induction l with
 | nil=>rfl
 | cons x l ih=>rw[JA,ih]; rfl
theorem Q0a(L:Go.Proofs.SlLaysM.n5 P ρ){xs ys:List Int}(hs:Qtz xs=some ys)(blk cap:Nat)(w:World)(hH:Sort.Holds id w blk 0 (xs.flatMap (Xt (.int .i64))).toArray)(hblk:blk<w.heap.size) :
  Calls P (ρ.f 5) #[.slice (some ⟨blk,0,none⟩) xs.length cap] w fun e w'=>e=.returned (.tuple #[])∧ys.length=xs.length∧∃n os,w'=Sort.grow (Sort.putRow id (Sort.ahead w n) blk 0 (ys.flatMap (Xt (.int .i64))).toArray) os:=by
 obtain⟨h1,h2⟩:=bvT hs
 have hy:=(Option.some.inj h2).symm
 rw[Qj6]at hH ⊢
 refine(Go.Proofs.AnyM.slices_Sort_int L blk 0 cap xs w (Qj5 hH) hblk (of_decide_eq_true h1)).mono ?_
 rintro e w' ⟨rfl,n,os,rfl⟩
 rw[Qf0,Qmj (.refl _),←hy]
 refine⟨rfl,?_,n,os,rfl⟩
 rw[hy]
 exact(Nq xs).length_eq
theorem Qp9(L:Go.Proofs.Lays2.n20 P ρ){xs ys:List Int}(hs:Rb xs=some ys)(blk cap:Nat)(w:World)(hH:Sort.Holds id w blk 0 (xs.flatMap (Xt (.int .i64))).toArray)(hblk:blk<w.heap.size)(wb:xs.length≤cap) :
  Calls P (ρ.f 20) #[.slice (some ⟨blk,0,none⟩) xs.length cap] w fun e w'=>e=.returned (.slice (some ⟨blk,0,none⟩) ys.length cap)∧ys.length≤xs.length ∧
   ∃n os zs,zs.length+ys.length*1≤xs.length*1∧w'=Sort.grow (Sort.putRow id (Sort.ahead w n) blk 0 (ys.flatMap (Xt (.int .i64))++zs).toArray) os:=by
 obtain⟨h1,h2⟩:=bvT hs
 have hy:=(Option.some.inj h2).symm
 rw[Qj6]at hH ⊢
 have hle:(Lib.compact xs).length≤xs.length:=by
  grind [Lib.compact,Lib.compactUpTo,List.length_map,Nat.le_trans,List.length_filter_le]
 refine(Go.Proofs.Any.slices_Compact_int L blk 0 cap xs w (Qj5 hH) (of_decide_eq_true h1) wb).mono ?_
 rintro e w' ⟨rfl,q,rfl⟩
 rw[Qf0,QB,hy]
 exact⟨rfl,hle,q,#[],(List.replicate (xs.length - (Lib.compact xs).length) (0:Int)).map (Value.int .i64),by rw[List.length_map,XU]; omega,by rw[Sort.grow_empty]⟩
open Go.Proofs in
theorem Qr0(L:SlLaysH.n10 P ρ)(v23:∀w,(zeroValue (ρ.t 23)).run P w=.ok (.int .i64 0) w){g:Nat}{p:Int→Bool}(eg:∀args w,(callFunc g args).run P w=.ok (.enter g args) w)
  (hp:∀(x:Int) (W:World),Calls P g #[.int .i64 x] W fun e w'=>e=.returned (.bool (p x))∧∃q,w'=W.drewN q) {xs:List Int} (hl:xs.length≤9223372036854775807) (blk cap:Nat) (w:World) (hH:Sort.Holds id w blk 0 (xs.flatMap (Xt (.int .i64))).toArray) (hblk:blk<w.heap.size) (wb:xs.length≤cap) :
  Calls P (ρ.f 10) #[.slice (some ⟨blk,0,none⟩) xs.length cap,.func (.func g) #[] #[]] w fun e w'=>e=.returned (.slice (some ⟨blk,0,none⟩) (xs.filter fun x=>!p x).length cap)∧(xs.filter fun x=>!p x).length≤xs.length ∧
   ∃n os zs,zs.length+(xs.filter fun x=>!p x).length*1≤xs.length*1∧w'=Sort.grow (Sort.putRow id (Sort.ahead w n) blk 0 ((xs.filter fun x=>!p x).flatMap (Xt (.int .i64))++zs).toArray) os:=by
 rw[Qj6]at hH ⊢
 have hle:=List.length_filter_le (fun x=>!p x) xs
 have hg:∀(x:Int) (W:World),FnGives P g #[] #[Value.int .i64 x] (.bool (p x)) W:=fun x W=>hp x W
 have h:=AnyE.slices_DeleteFunc L (Value.int .i64) (fun _=>rfl) p g #[] eg 0 v23 blk 0 cap xs.toArray w (fun W x _=>hg x W) (fun n os dk x _=>hg x _) (Qj5 hH) (by simpa using hl) (by simpa using wb)
 have kj:xs.toArray.size=xs.length:=by simp
 rw[kj]at h
 refine h.mono ?_
 rintro e w' ⟨rfl,q,rfl⟩
 rw[Qf0,QB]
 exact⟨rfl,hle,q,#[],(List.replicate (xs.length - (xs.filter fun x=>!p x).length) (0:Int)).map (Value.int .i64),by rw[List.length_map,XU]; omega,by rw[Sort.grow_empty]⟩
open Go.Proofs in
theorem Q0b(L:SlLaysH.n10 P ρ)(v23:∀w,(zeroValue (ρ.t 23)).run P w=.ok (.int .i64 0) w){g:Nat}{p:Int→Bool}(eg:∀args w,(callFunc g args).run P w=.ok (.enter g args) w)
  (hp:∀(x:Int) (W:World),Calls P g #[.int .i64 x] W fun e w'=>e=.returned (.bool (p x))∧∃q,w'=W.drewN q) {xs ys:List Int} (hs:Qt0 p xs=some ys) (blk cap:Nat) (w:World) (hH:Sort.Holds id w blk 0 (xs.flatMap (Xt (.int .i64))).toArray) (hblk:blk<w.heap.size) (wb:xs.length≤cap) :
  Calls P (ρ.f 10) #[.slice (some ⟨blk,0,none⟩) xs.length cap,.func (.func g) #[] #[]] w fun e w'=>e=.returned (.slice (some ⟨blk,0,none⟩) ys.length cap)∧ys.length≤xs.length ∧
   ∃n os zs,zs.length+ys.length*1≤xs.length*1∧w'=Sort.grow (Sort.putRow id (Sort.ahead w n) blk 0 (ys.flatMap (Xt (.int .i64))++zs).toArray) os:=by
 obtain⟨h1,h2⟩:=bvT hs
 have hy:=(Option.some.inj h2).symm
 rw[hy]
 exact Qr0 L v23 eg hp (of_decide_eq_true h1) blk cap w hH hblk wb
open Go.Proofs in
theorem Qr1(L:SlLaysH.n10 P ρ)(a:Option Addr)(w:World){fv:Value}:Calls P (ρ.f 10) #[.slice a 0 0,fv] w fun e w'=>e=.returned (.slice a 0 0)∧w'=w:=by
 have mixed:=L.mixed; have t0:=L.t0; have a0:=L.a0; have z0:=L.z0; have v0:=L.v0; have t3:=L.t3; have a3:=L.a3; have z3:=L.z3; have v3:=L.v3; have t4:=L.t4; have a4:=L.a4; have z4:=L.z4; have v4:=L.v4; have t22:=L.t22; have a22:=L.a22; have z22:=L.z22; have v22:=L.v22; have a23:=L.a23; have z23:=L.z23; have t25:=L.t25; have a25:=L.a25; have z25:=L.z25; have v25:=L.v25
 have e6:∀args w,(callFunc (ρ.f 6) args).run P w=.ok (.enter (ρ.f 6) args) w:=L.f6.enters rfl
 obtain⟨_,_,FG⟩:=L.f10
 go_enter FG,SlBodyH.n10_ntmps ρ
 go_wp2_with (go_at_fn (ρ.f 6); refine(AnyE.slices_IndexFunc_empty { L with } a 0 fv _).mono ?_; rintro e w' ⟨rfl,rfl⟩)
 go_ret
 exact⟨rfl,rfl⟩
end
theorem Jas{α:Type}{key:α→Int}[Inhabited (Kd key)]{xs ys:List α}(h:xs=[])(hs:Qe4 key xs=some ys):ys=[]:=by
 subst h; exact List.Perm.eq_nil (Qp6 key hs).1
theorem Jat{xs ys:List Int}(h:xs=[])(hs:Qtz xs=some ys):ys=[]:=by
 subst h
 obtain⟨_,h2⟩:=bvT hs
 exact(Option.some.inj h2).symm
theorem Qwk{xs ys:List Int}(h:xs=[])(hs:Rb xs=some ys):ys=[]:=by
 subst h
 obtain⟨_,h2⟩:=bvT hs
 exact(Option.some.inj h2).symm
theorem Jau{p:Int→Bool}{xs ys:List Int}(h:xs=[])(hs:Qt0 p xs=some ys):ys=[]:=by
 subst h
 obtain⟨_,h2⟩:=bvT hs
 grind
theorem Q7f(β:Nat→Nat)(ρ:Nat→Value)(ok:Ok)(w:World)(vs:List Value)(h:vs.length=([]:List Value).length+1)(xm:∀e∈([]:List En),∃cs,vs[e.t]?=some (e.av.val cs)∧cr β ρ ok w false e.av cs):∃v,vs=v::[]:=ZU.1 h
theorem Q7g{g:Nat}(β:Nat→Nat)(ρ:Nat→Value)(ok:Ok)(w:World)(vs:List Value)(h:vs.length=[Value.func (.func g) #[] #[]].length+1)(xm:∀e∈[(⟨1,[],.f g .nil⟩:En)],∃cs,vs[e.t]?=some (e.av.val cs)∧cr β ρ ok w false e.av cs):∃v,vs=v::[Value.func (.func g) #[] #[]]:=by
 obtain⟨cs,h1,ws,h2,h3⟩:=xm _ (.head _)
 have h3:ws=[]:=h3
 subst h3 h2
 obtain⟨a,b,rfl⟩:∃a b,vs=[a,b]:=by
  match vs,h with
  | [a,b],_=>grind
 have h1:b=Value.func (.func g) #[] #[]:=Option.some.inj h1
 grind
end Gx
