/- A region of open order by ordinary steps: sound. -/
import Derived.Test.YtgnpojenbefoiaaGreatXR4
import Derived.Maps.RangeRun
import Derived.Scope
namespace Gx
open Go Go.RowKit Gd
set_option linter.unusedVariables false
set_option linter.unusedSimpArgs false
theorem Tx:∀{hs:List HD} {i:Nat},(∃hc∈hs,i∈hc.bs)→i∈Zr hs
 | [],i,⟨_,h,_⟩=>by cases h
 | h::l,i,⟨hc,hm,hi⟩=>by
  rcases List.mem_cons.1 hm with rfl | hm
  ·exact List.mem_append_left _ hi
  ·exact List.mem_append_right _ (Tx ⟨hc,hm,hi⟩)
theorem Qgp {l0:List Oper} {hs:List HD} (h:Q9n l0 hs=true) {i j:Nat} {hi hj:HD} (h1:hs[i]?=some hi) (h2:hs[j]?=some hj) (hji:j<i):Iu l0 i j hi hj=true:=by
 have hil:=(List.getElem?_eq_some_iff.1 h1).1
 have:=List.all_eq_true.1 (List.all_eq_true.1 h i (List.mem_range.2 hil)) j (List.mem_range.2 hji)
 rw [h1,h2] at this
 exact this
theorem Q9v {l0:List Oper} {hs:List HD} (h:nmB l0 hs=true) {i j:Nat} {hi hj:HD} (h1:hs[i]?=some hi) (h2:hs[j]?=some hj) (hji:i≠j):Bb hi.bs hj.nm=true∨Zj l0 l0.length j i=true:=by
 have hil:=(List.getElem?_eq_some_iff.1 h1).1
 have hjl:=(List.getElem?_eq_some_iff.1 h2).1
 have:=List.all_eq_true.1 (List.all_eq_true.1 h i (List.mem_range.2 hil)) j (List.mem_range.2 hjl)
 rw [h1,h2] at this
 simp only [Pw hji,Bool.false_or,Bool.or_eq_true] at this
 exact this
theorem Tz {m:List (Nat×Ob)} {i:Nat}:∀{l:List (Nat×Ob)},i∈Q3 l→i∈Q3 (l++m)
 | [],h=>by cases h
 | (k,x)::l,h=>by
  have key:∀{xs:List Nat},i∈xs++Q3 l→i∈xs++Q3 (l++m):=fun {xs} h=>by
   rcases List.mem_append.1 h with h | h
   ·exact List.mem_append_left _ h
   ·exact List.mem_append_right _ (Tz h)
  cases x with
  | var t c=>have:=key (xs:=k::Q2 c) (by simpa [Q3] using h); simpa [Q3] using this
  | mapT a b p e u xs hole =>
   cases hole with
   | none=>have:=key (xs:=[k]) (by simpa [Q3] using h); simpa [Q3] using this
   | some q=>have:=key (xs:=[k,q.2]) (by simpa [Q3] using h); simpa [Q3] using this
  | mapO k9 xs9 hole =>
   cases hole with
   | none=>have:=key (xs:=[k]) (by simpa [Q3,Zp] using h); simpa [Q3,Zp] using this
   | some q=>have:=key (xs:=[k,q.2]) (by simpa [Q3,Zp] using h); simpa [Q3,Zp] using this
  | mapE k1 v1 xs1 key1 j=>have:=key (xs:=[k,j]) (by simpa [Q3] using h); simpa [Q3] using this
  | _=>have:=key (xs:=[k]) (by simpa [Q3] using h); simpa [Q3] using this
theorem P5 {m:List (Nat×Ob)} {i:Nat} (h:i∈Q3 m):∀{l:List (Nat×Ob)},i∈Q3 (l++m)
 | []=>h
 | (k,x)::l=>by
  have ih:=P5 h (l:=l)
  cases x with
  | var t c=>simp only [List.cons_append,Q3]; exact .tail _ (List.mem_append_right _ ih)
  | mapT a b p e u xs hole =>
   cases hole with
   | none=>simp only [List.cons_append,Q3]; exact .tail _ ih
   | some q=>simp only [List.cons_append,Q3]; exact .tail _ (.tail _ ih)
  | mapO k9 xs9 hole =>
   cases hole with
   | none=>simp only [List.cons_append,List.nil_append,Q3,Zp]; exact .tail _ ih
   | some q=>simp only [List.cons_append,List.nil_append,Q3,Zp]; exact .tail _ (.tail _ ih)
  | mapE k1 v1 xs1 key1 j=>simp only [List.cons_append,Q3]; exact .tail _ (.tail _ ih)
  | _=>simp only [List.cons_append,Q3]; exact .tail _ ih
theorem P6 {E E':Nat→Bool}:∀{acc:List EC} {j:Nat},(∀k,k<acc.length→E (j+k)=E' (j+k))→Gu E acc j=Gu E' acc j
 | [],_,_=>rfl
 | g::l,j,h=>by
  have h0:=h 0 (by simp)
  rw [Nat.add_zero] at h0
  have ih:Gu E l (j+1)=Gu E' l (j+1):=P6 fun k hk=>by
   have:=h (k+1) (by simp only [List.length_cons]; omega)
   rwa [show j+(k+1)=j+1+k by omega] at this
  simp only [Gu,h0,ih]
theorem T0:∀{acc:List EC} {j:Nat},Gu (fun _=>false) acc j=[]
 | [],_=>rfl
 | g::l,j=>by simp only [Gu,Bool.false_and,cond_false]; exact T0
theorem Qlu {Zs:List (Nat×Ob)} {bs:List Nat} {acc:List EC} (hN:(Ym Zs++bs).Nodup):Wd (Ym Zs++bs) Zs acc (fun _=>false)=Zs:=by
 unfold Wd
 have h0:∀id c,Y0 (fun _=>false) id acc 0 c=c:=fun id c=>Hk fun _ _ _ _=>rfl
 obtain ⟨n1,n2,n3⟩:=List.nodup_append.1 hN
 rw [List.filterMap_append]
 have e2:(bs.filterMap fun id=>Zc id (Y0 (fun _=>false) id acc 0 (Qb Zs id)))=[]:=by
  rw [List.filterMap_eq_nil_iff]
  intro d hd
  rw [h0]
  cases hl:Qb Zs d with
  | none=>rfl
  | some ob=>exact absurd rfl (n3 d (Kx (by rw [hl]; rfl)) d hd)
 rw [e2,List.append_nil]
 unfold Ym
 rw [List.filterMap_map]
 refine (Yb (f:=some) fun q hq=>?_).trans List.filterMap_some
 simp only [Function.comp,h0,Ap n1 q hq,Zc]
section
variable {P:Program} {Y:TX} {X:Cx} {K:List Con} {n:Nat} {l0:List Oper} {ds:List Nat} {Zs Mb:List (Nat×Ob)} {B:List En} {prA prB:List Nat} {R:Type} {r:R} {β:Nat→Nat} {ρ:Nat→Value} {a:Act} {w:World}
theorem Qgq (hT:Qy P Y.T) (hmix:P.follows .mixedOrders=true) (hK:KsX P Y X K) (hX:X.n=n) (hr:X.res=[]) (hp:X.pin=none) {ht:HT} {p:Nat} (h:Rel X β ρ ⟨B,Zs++Mb⟩ a w)
  (hBt:∀e∈B,∀d∈ds,d<n→e.t≠d∧∀c∈e.cs,c.1≠d) (hBi:∀e∈B,∀i∈Q2 e.av,i∈prB) (hMi:∀i∈Q3 (Zs++Mb),i∈prB)
  (hb:O4 l0 p ds=true) {k:Hn→List HD→List EC→Option R} (hs:O7 Y K n l0 ds Zs B prA ht (l0.take p) 0 [] [] k=some r)
  (hch:∀h hs0 acc,k h hs0 acc=some r→Qtw l0 (Ym Zs) prB prA hs0=true) (hpA:∀i∈prB,i∈prA) {id:Nat} {Q:Exit→Act→World→Prop}
  (H:∀β' ρ' a' w' h hs0 acc,k h hs0 acc=some r→(∀(x:Nat),(∀hc∈hs0,x∉hc.wr)→∀g∈acc,U5 x g=false)→(∀x∈Zr hs0,x∈Ws ht)→agP prB β β' ρ ρ'→Rel X β' ρ' ⟨Gu Us acc 0++B,Wd (Ym Zs++Zr hs0) Zs acc Us++Mb⟩ a' w'→wpList P ⟨l0⟩ Q (l0.drop p) a' w'):(Code.region id ⟨l0⟩ true).wp P Q a w:=by
 unfold O4 at hb
 simp only [Bool.and_eq_true] at hb
 obtain ⟨⟨⟨⟨hple,hlen⟩,hback⟩,hfin⟩,hndB⟩:=hb
 have hnd:=Cj hndB
 have hpl:=Nat.le_of_ble_eq_true hple
 have hdl:=Nat.eq_of_beq_eq_true hlen
 obtain ⟨hn,hs0,acc,hk,htr,hbT⟩:=Nw hs
 simp only [List.nil_append] at hk
 have hchk:=hch _ _ _ hk
 unfold Qtw at hchk
 simp only [Bool.and_eq_true] at hchk
 obtain ⟨⟨⟨⟨⟨hcf,hnm⟩,hNb⟩,hapB⟩,hNAb⟩,hall0⟩:=hchk
 have hN:=Hh hNb
 have hNA:∀i∈Ym Zs++Zr hs0,i∈prA:=fun i hi=>Xy hNAb i hi
 have hprB:∀i∈prB,i∈prA∧i∉Zr hs0:=fun i hi=>⟨hpA i hi,fun h2=>Gj hapB hi h2⟩
 have hal0:∀hc∈hs0,Wp hc.al=true∧Kv (Ym Zs++Zr hs0) hc.al=true∧Kv prA hc.nm=true:=fun hc hm=>by
  have:=List.all_eq_true.1 hall0 hc hm
  simp only [Bool.and_eq_true] at this
  exact ⟨this.1.1,this.1.2,this.2⟩
 have hNm:∀hc∈hs0,∀i∈hc.nm,i∈prA:=fun hc hm i hi=>Xy (hal0 hc hm).2.2 i hi
 have hal:∀hc∈hs0,(hc.tch++hc.ro++hc.bs).Nodup∧∀i∈hc.tch++hc.ro++hc.bs,i∈Ym Zs++Zr hs0:=fun hc hm=>⟨Hh (hal0 hc hm).1,fun i hi=>Xy (hal0 hc hm).2.1 i hi⟩
 obtain ⟨hal1,hal2,hall⟩:=htr.get
 have hap:acc.length=p:=by rw [hal1,List.length_take]; omega
 simp only [List.nil_append,Nat.zero_add] at hall
 have hget:∀(i:Nat) o,i<p→l0[i]?=some o→∃g hc S1,acc[i]?=some g∧hs0[i]?=some hc∧Y7 (R:=XS) Y K n l0 hc.h [o] (O6 l0 ds Zs B prA hc o i (acc.take i)) some=some S1∧Ds n ds Zs hc o i (acc.take i) S1=some g:=fun i o hi ho=>hall i o (by rw [List.getElem?_take,if_pos hi]; exact ho)
 have hof:∀(j:Nat) g,acc[j]?=some g→j<p∧∃o hc S1,l0[j]?=some o∧hs0[j]?=some hc∧Ds n ds Zs hc o j (acc.take j) S1=some g:=fun j g hg=>by
  have hj:j<p:=by have:=(List.getElem?_eq_some_iff.1 hg).1; omega
  obtain ⟨g',hc,S1,q1,q2,_,q4⟩:=hget j l0[j] hj (List.getElem?_eq_getElem (by omega))
  rw [hg] at q1; injection q1 with q1; subst q1
  exact ⟨hj,_,hc,S1,List.getElem?_eq_getElem (by omega),q2,q4⟩
 have htch:∀(j:Nat) g hc x,acc[j]?=some g→hs0[j]?=some hc→U5 x g=true→x∈hc.wr:=fun j g hc x hg hh ht=>by
  obtain ⟨_,o,hc',S1,_,q2,q3⟩:=hof j g hg
  rw [hh] at q2; injection q2 with q2; subst q2
  unfold U5 at ht
  rw [(Hl q3).2.2.1,F2] at ht
  by_cases hm:x∈hc.tch++hc.bs
  ·exact hm
  ·rw [if_neg hm] at ht; simp [Zk] at ht
 have hdsj:∀(j:Nat) g,acc[j]?=some g→ds[j]?=some g.d:=fun j g hg=>by
  obtain ⟨hj,o,hc,S1,_,_,q3⟩:=hof j g hg
  exact C0 (by omega) (Hl q3).2.2.2.1
 have hno:∀(x:Nat),(∀hc∈hs0,x∉hc.wr)→∀g∈acc,U5 x g=false:=fun x hx g hg=>by
  obtain ⟨j,hj⟩:=List.getElem?_of_mem hg
  obtain ⟨hjp,o,hc,S1,p1,p2,p3⟩:=hof j g hj
  cases ht:U5 x g with
  | false=>rfl
  | true=>exact absurd (htch j g hc x hj p2 ht) (hx hc (List.mem_of_getElem? p2))
 refine Qgn (fun E a w=>∃β' ρ',agP prB β β' ρ ρ'∧Rel X β' ρ' ⟨Gu E acc 0++B,Wd (Ym Zs++Zr hs0) Zs acc E++Mb⟩ a w) hmix p (fun E E' a w hE ⟨β',ρ',q1,q2⟩=>⟨β',ρ',q1,?_⟩) hple hback hfin ⟨β,ρ,agP.refl _ _ _,?_⟩ (fun E i o a w Q' hip ho hcl hEi hpre ⟨β1,ρ1,hag,hR⟩ hQ=>?_) fun a' w' ⟨β',ρ',q1,q2⟩=>H β' ρ' a' w' hn hs0 acc hk hno hbT q1 q2
 ·have e1:Gu E acc 0=Gu E' acc 0:=P6 fun k hk=>by rw [Nat.zero_add]; exact hE k (by omega)
  have e2:Wd (Ym Zs++Zr hs0) Zs acc E=Wd (Ym Zs++Zr hs0) Zs acc E':=Yb fun id _=>by
   rw [H8 (E:=E) (E':=E') fun k e hk _=>by rw [Nat.zero_add]; exact hE k (by have:=(List.getElem?_eq_some_iff.1 hk).1; omega)]
  rw [e1,e2] at q2
  exact q2
 ·rw [T0,Qlu hN]
  exact Sb.below h ((Below.refl _ _).drew)
 ·obtain ⟨g,hc,S1,hg,hhc,hrun,hst⟩:=hget i o hip ho
  obtain ⟨t1,t2,t3,t4,t5,t6,t7,t8⟩:=Hl hst
  obtain ⟨al1,al2⟩:=hal hc (List.mem_of_getElem? hhc)
  have hlateB:∀j,Zj l0 l0.length j i=true→E j=false:=fun j hbj=>by
   cases hE:E j with
   | false=>rfl
   | true =>
    have:E i=true:=K0 hcl l0.length j i hbj fun o' ho' e he hb'=>hcl j o' hE ho' e he hb'
    rw [hEi] at this; cases this
  have hearB:∀j,Zj l0 l0.length i j=true→E j=true:=fun j hbj=>K0 hcl l0.length i j hbj fun o' ho' e he hb'=>by rw [ho] at ho'; injection ho' with ho'; subst ho'; exact hpre e he hb'
  have hlate:∀id∈hc.tch++hc.ro++hc.bs,∀(j:Nat) g',acc[j]?=some g'→i<j→U5 id g'=true→E j=false:=fun id hm j g' hj hij ht=>by
   obtain ⟨hjp,oj,hcj,S1j,p1,p2,p3⟩:=hof j g' hj
   have hw:=htch j g' hcj id hj p2 ht
   have hse:=Qgp hcf p2 hhc hij
   unfold Iu at hse
   simp only [Bool.and_eq_true,Bool.or_eq_true] at hse
   rcases hse.1 with ⟨s1,s2⟩ | s1
   ·exfalso
    rcases List.mem_append.1 hm with hm | hm
    ·rcases List.mem_append.1 hm with hm | hm
     ·exact Gj s1 (List.mem_append_left _ hm:id∈hc.wr) (by
       rcases List.mem_append.1 hw with q | q
       ·exact List.mem_append_left _ (List.mem_append_left _ q)
       ·exact List.mem_append_right _ q)
     ·exact Gj s2 hm hw
    ·exact Gj s1 (List.mem_append_right _ hm:id∈hc.wr) (by
       rcases List.mem_append.1 hw with q | q
       ·exact List.mem_append_left _ (List.mem_append_left _ q)
       ·exact List.mem_append_right _ q)
   ·exact hlateB j s1
  have hearly:∀id∈hc.tch++hc.ro,∀(j:Nat) g',acc[j]?=some g'→j<i→U5 id g'=true→E j=true:=fun id hm j g' hj hij ht=>by
   obtain ⟨hjp,oj,hcj,S1j,p1,p2,p3⟩:=hof j g' hj
   have hw:=htch j g' hcj id hj p2 ht
   have hse:=Qgp hcf hhc p2 hij
   unfold Iu at hse
   simp only [Bool.and_eq_true,Bool.or_eq_true] at hse
   rcases hse.1 with ⟨s1,s2⟩ | s1
   ·exact (Gj s1 hw (List.mem_append_left _ hm)).elim
   ·exact hearB j s1
  have hbsA:∀id∈hc.bs,id∈Zr hs0:=fun id hm=>Tx ⟨hc,List.mem_of_getElem? hhc,hm⟩
  have hbs:∀id∈hc.bs,Y0 E id acc 0 (Qb Zs id)=none:=fun id hm=>by
   have hz:Qb Zs id=none:=by
    cases hl:Qb Zs id with
    | none=>rfl
    | some ob=>exact absurd rfl ((List.nodup_append.1 hN).2.2 id (Kx (by rw [hl]; rfl)) id (hbsA id hm))
   rw [hz]
   refine Hk fun j g' hj ht=>?_
   rw [Nat.zero_add]
   rcases Nat.lt_trichotomy j i with hji | hji | hji
   ·obtain ⟨hjp,oj,hcj,S1j,p1,p2,p3⟩:=hof j g' hj
    have hse:=Qgp hcf hhc p2 hji
    unfold Iu at hse
    simp only [Bool.and_eq_true] at hse
    exact (Gj hse.2 hm (htch j g' hcj id hj p2 ht)).elim
   ·rw [hji]; exact hEi
   ·exact hlate id (List.mem_append_right _ hm) j g' hj hji ht
  have hprs:∀x∈prB,x∈Iv prA hc.bs:=fun x hx=>by
   obtain ⟨q1,q2⟩:=hprB x hx
   refine List.mem_filter.2 ⟨q1,?_⟩
   cases hm:J9 hc.bs x with
   | false=>rfl
   | true=>exact absurd (hbsA x (Ke hm)) q2
  have hnmj:∀(j:Nat) g',acc[j]?=some g'→E j=true→∀hcj,hs0[j]?=some hcj→∀x∈hcj.nm,x∈Iv prA hc.bs:=fun j g' hj hE hcj p2 x hx=>by
   refine List.mem_filter.2 ⟨hNm hcj (List.mem_of_getElem? p2) x hx,?_⟩
   cases hm:J9 hc.bs x with
   | false=>rfl
   | true =>
    have hij:i≠j:=fun e=>by subst e; rw [hEi] at hE; cases hE
    rcases Q9v hnm hhc p2 hij with q | q
    ·exact (Gj q (Ke hm) hx).elim
    ·rw [hlateB j q] at hE; cases hE
  refine Qqf hK.2 hr hp (S1:=S1) (tch:=hc.tch) (ro:=hc.ro) (bs:=hc.bs) (pr:=Iv prA hc.bs) (Ve:=O5 l0 ds i (acc.take i) B (E8 o++gTs l0 o)) hR hg hEi hN al1 al2 hearly hlate hbs (fun e he=>?_) t3 t7 (fun d hd=>(t6 d hd).1) t1 (fun e he=>?_) (fun x hx=>?_) (fun X1 Q1 x1 x2 x3 x4 x5 x6=>?_) fun β' ρ' a' w' y1 y2=>hQ a' w' ⟨β',ρ',agP.trans hag fun x hx=>y1 x (hprs x hx),y2⟩
  ·rcases F3 he with ⟨v1,v2,v3⟩ | v1
   ·obtain ⟨g',m1,m2,m3,m4⟩:=Tv v2
    obtain ⟨j,hj⟩:=List.getElem?_of_mem m1
    rw [List.getElem?_take] at hj
    split at hj
    ·rename_i hji
     have hd':=hdsj j g' hj
     have hix:ds.idxOf e.t=j:=by
      have hjl:=(List.getElem?_eq_some_iff.1 hd').1
      have:=hnd.idxOf_getElem j hjl
      rw [(List.getElem?_eq_some_iff.1 hd').2,m2] at this
      exact this
     rw [hix] at v3
     have hEj:E j=true:=by
      simp only [Ku,ho] at v3
      obtain ⟨e',he',hb'⟩:=List.any_eq_true.1 v3
      simp only [Bool.and_eq_true] at hb'
      rw [←Nat.eq_of_beq_eq_true hb'.2]
      exact hpre e' he' hb'.1
     refine List.mem_append_left _ ?_
     have:=Qbd (E:=E) (acc:=acc) (j:=0) (k:=j) hj (by rw [Nat.zero_add]; exact hEj) m3
     obtain ⟨et,ecs,eav⟩:=e
     simp only at v1 m2 m4
     subst v1; subst m2; subst m4
     exact this
    ·cases hj
   ·exact List.mem_append_right _ v1
  ·rcases List.mem_append.1 he with he | he
   ·obtain ⟨j,g',q1,q2,q3,rfl⟩:=I4 he
    rw [Nat.zero_add] at q2
    obtain ⟨hjp,oj,hcj,S1j,p1,p2,p3⟩:=hof j g' q1
    refine ⟨fun x hx=>hnmj j g' q1 q2 hcj p2 x (Xy (Hl p3).2.2.2.2.1 x hx),fun d hd=>⟨fun e=>?_,by simp⟩⟩
    have e1:=(t6 d hd).1
    have d1:=hdsj j g' q1
    have d2:=hdsj i g hg
    have hij:j=i:=by
     obtain ⟨b1,c1⟩:=List.getElem?_eq_some_iff.1 d1
     obtain ⟨b2,c2⟩:=List.getElem?_eq_some_iff.1 d2
     have a1:=hnd.idxOf_getElem j b1
     have a2:=hnd.idxOf_getElem i b2
     rw [show ds[j]=ds[i] from c1.trans (e.trans (e1.trans c2.symm))] at a1
     exact a1.symm.trans a2
    rw [hij,hEi] at q2; cases q2
   ·refine ⟨fun x hx=>hprs x (hBi e he x hx),fun d hd=>?_⟩
    obtain ⟨e1,e2⟩:=t6 d hd
    exact hBt e he d (by rw [e1]; exact List.mem_of_getElem? (hdsj i g hg)) e2
  ·rcases Cd hx with hx | hx
   ·obtain ⟨id,h1,ob,h2,h3⟩:=P4 hx
    rcases Qdi h2 with h6 | ⟨j,g',q1,q2,q3⟩
    ·exact hprs x (hMi x (Tz (Tw h6 h3)))
    ·rw [Nat.zero_add] at q2
     obtain ⟨hjp,oj,hcj,S1j,p1,p2,p3⟩:=hof j g' q1
     refine hnmj j g' q1 q2 hcj p2 x (Xy (Hl p3).2.1 x ?_)
     rw [(Hl p3).2.2.1,F2] at q3
     split at q3
     ·exact Tw (Option.some.inj q3) h3
     ·cases q3
   ·exact hprs x (hMi x (P5 hx))
  ·have hflat:(O6 l0 ds Zs B prA hc o i (acc.take i)).flat=⟨O5 l0 ds i (acc.take i) B (E8 o++gTs l0 o),Db hc.tch Zs (acc.take i)++Db hc.ro Zs (acc.take i)⟩:=by
    simp only [XS.flat,O6,List.append_nil]
   have:=Vg hT (X:=X1) ⟨hK.1,x4⟩ (x1.trans hX) x2 (Q:=Q1) hc.h (l:=[o]) (rest:=[]) (S:=O6 l0 ds Zs B prA hc o i (acc.take i)) (a:=a) (w:=w) (by rw [hflat]; exact x5) hrun fun β' ρ' S' a' w' k1 k2 k3=>by
    simp only [Option.some.injEq] at k1
    subst k1
    have kf:S'.fix=[]:=k2.fix
    have km:S'.fixM=Db hc.ro Zs (acc.take i):=k2.fixM
    refine x6 β' ρ' a' w' k2.ag ?_
    have e:S'.flat=⟨S'.env,S'.mem++Db hc.ro Zs (acc.take i)⟩:=by simp only [XS.flat,kf,km,List.append_nil]
    rw [e] at k3
    exact k3
   simpa using this
end
end Gx

/- A region of open order by ordinary steps, as the interpreter walks it. -/
namespace Gx
open Go Go.RowKit Gd
set_option linter.unusedVariables false
set_option linter.unusedSimpArgs false
theorem Ce {M:List (Nat×Ob)}:∀{B:List En} {e:En},e∈Qk1 M B→∃e0∈B,e=⟨e0.t,e0.cs,E9 M e0.av⟩
 | [],e,h=>by cases h
 | e0::l,e,h=>by
  simp only [Qk1] at h
  cases hb:Qax M (S6 e0.av) with
  | true =>
   rw [hb] at h
   rcases List.mem_cons.1 h with rfl | h
   ·exact ⟨e0,.head _,rfl⟩
   ·obtain ⟨e1,h1,h2⟩:=Ce h
    exact ⟨e1,.tail _ h1,h2⟩
  | false =>
   rw [hb] at h
   obtain ⟨e1,h1,h2⟩:=Ce h
   exact ⟨e1,.tail _ h1,h2⟩
theorem Q4l {α:Type} (a b c d:List α):((a++b)++(c++d)).Perm ((a++c)++(b++d)):=by
 rw [List.append_assoc,List.append_assoc]
 refine List.Perm.append_left a ?_
 rw [←List.append_assoc,←List.append_assoc]
 exact List.perm_append_comm.append_right d
theorem T1 {E:Nat→Bool} {id:Nat}:∀{l:List EC} {j:Nat} {c:Option Ob},(∀g∈l,U5 id g=false)→Y0 E id l j c=c
 | [],j,c,_=>rfl
 | g::l,j,c,h=>by
  simp only [Y0]
  rw [Qgo (h g (.head _))]
  rw [show (bif E j then c else c)=c by cases E j<;>rfl]
  exact T1 fun g' hg=>h g' (.tail _ hg)
theorem Cf {l m:List Nat} {Zs:List (Nat×Ob)} {acc:List EC} {E:Nat→Bool}:Wd (l++m) Zs acc E=Wd l Zs acc E++Wd m Zs acc E:=List.filterMap_append
theorem Qbe {l m:List (Nat×Ob)}:Ym (l++m)=Ym l++Ym m:=List.map_append
section
variable {P:Program} {Y:TX} {X:Cx} {K:List Con} {n:Nat} {l0:List Oper} {ds:List Nat} {R:Type} {r:R} {β:Nat→Nat} {ρ:Nat→Value} {a:Act} {w:World}
theorem Quf {B:List En} {M Z:List (Nat×Ob)} (h:Rel X β ρ ⟨B,M++Z⟩ a w):Rel X β ρ ⟨Qk1 M B++B,M++Z⟩ a w:=by
 refine Rel.ofSb h rfl fun e he=>?_
 rcases List.mem_append.1 he with he | he
 ·obtain ⟨e0,h0,rfl⟩:=Ce he
  obtain ⟨h1,h2⟩:=h.en h0
  refine ⟨fun hc=>?_,h2⟩
  obtain ⟨cs,q1,q2⟩:=h1 hc
  exact ⟨cs,by rw [q1,Qdd],Aq (fun id o ho=>h.mm id o (Q0 ho)) q2⟩
 ·exact h.en he
theorem Qgr (hT:Qy P Y.T) (hmix:P.follows .mixedOrders=true) (hK:KsX P Y X K) (hX:X.n=n) (hr:X.res=[]) (hp:X.pin=none) {S:XS} (h:Rel X β ρ S.flat a w) {p:Nat} {zs zf:List Nat} {ht:HT}
  (hb:O4 l0 p ds=true) (hfx:(ds.all fun d=>G2 d S.fix)=true) {k:Hn→XS→Option R}
  (hs:dcI Y K n l0 p ds (Je S.mem zs).2 (Je S.fixM zf).2 (Je S.mem zs).1 (Je S.fixM zf).1 ht S (Da S.env (ds++Ws ht)++S.fix) k=some r) {id:Nat} {Q:Exit→Act→World→Prop}
  (H:∀(β':Nat→Nat) (ρ':Nat→Value) (S':XS) (a':Act) (w':World) (h':Hn),k h' S'=some r→Vo S S' β β' ρ ρ'→Rel X β' ρ' S'.flat a' w'→wpList P ⟨l0⟩ Q (l0.drop p) a' w'):(Code.region id ⟨l0⟩ true).wp P Q a w:=by
 have hm:=Ut zs S.mem
 have hf:=Ut zf S.fixM
 revert hs hm hf
 generalize (Je S.mem zs).2=Z1
 generalize (Je S.mem zs).1=M1
 generalize (Je S.fixM zf).2=Z2
 generalize (Je S.fixM zf).1=F1
 intro hs hm hf
 unfold dcI dcR at hs
 have hpm:S.flat.mem.Perm ((Z1++Z2)++(M1++F1)):=(hm.symm.append hf.symm).trans (Q4l Z1 M1 Z2 F1)
 have hBm:∀e∈Da S.env (ds++Ws ht)++S.fix,e∈S.flat.env∧∀d∈ds,e.t≠d∧∀c∈e.cs,c.1≠d:=fun e he=>by
  rcases List.mem_append.1 he with he | he
  ·obtain ⟨q1,q2⟩:=Lw he
   exact ⟨List.mem_append_left _ q1,fun d hd=>(q2 d (List.mem_append_left _ hd)).2⟩
  ·exact ⟨List.mem_append_right _ he,fun d hd=>Fx (List.all_eq_true.1 hfx d hd) e he⟩
 have h1:Rel X β ρ ⟨Da S.env (ds++Ws ht)++S.fix,(M1++F1)++(Z1++Z2)⟩ a w:=Rel.permM (Rel.less h fun e he=>(hBm e he).1) (hpm.trans List.perm_append_comm)
 have h2:=Rel.permM (Quf h1) (List.perm_append_comm (l₁:=M1++F1) (l₂:=Z1++Z2))
 refine Qgq hT hmix hK hX hr hp (prB:=Eh (Da S.env (ds++Ws ht)++S.fix)++Q3 ((Z1++Z2)++(M1++F1))++S.prot) (Mb:=M1++F1) h2 (fun e he d hd _=>?_) (fun e he i hi=>?_) (fun i hi=>List.mem_append_left _ (List.mem_append_right _ hi)) hb hs
  (fun hh hs0 acc hk=>?_) (fun i hi=>List.mem_append_left _ (List.mem_append_left _ hi)) fun β' ρ' a' w' hh hs0 acc hk hno hbT hag hR=>?_
 ·rcases List.mem_append.1 he with he | he
  ·obtain ⟨e0,q1,rfl⟩:=Ce he
   exact (hBm e0 q1).2 d hd
  ·exact (hBm e he).2 d hd
 ·refine List.mem_append_left _ (List.mem_append_left _ ?_)
  rcases List.mem_append.1 he with he | he
  ·obtain ⟨e0,q1,rfl⟩:=Ce he
   exact Qc5 q1 (I2 hi)
  ·exact Qc5 he hi
 ·have:=(bvT hk).1
  simp only [Bool.and_eq_true] at this
  exact this.1
 ·obtain ⟨hck,hk⟩:=bvT hk
  simp only [Bool.and_eq_true] at hck
  obtain ⟨hck,hkf⟩:=hck
  have hnd:(Ym (Z1++Z2)).Nodup:=by
   unfold Qtw at hck
   simp only [Bool.and_eq_true] at hck
   exact (List.nodup_append.1 (Hh hck.1.1.1.2)).1
  refine H β' ρ' _ a' w' hh hk ⟨rfl,rfl,rfl,fun i hi=>hag i (List.mem_append_right _ hi)⟩ ?_
  have e2:Wd (Ym Z2) (Z1++Z2) acc Us=Z2:=by
   unfold Wd Ym
   rw [List.filterMap_map]
   refine (Yb (f:=some) fun q hq=>?_).trans List.filterMap_some
   have hq2:q.1∈Ym Z2:=List.mem_map.2 ⟨q,hq,rfl⟩
   have hl:=Ap hnd q (List.mem_append_right _ hq)
   simp only [Function.comp,hl]
   rw [T1 fun g hg=>hno q.1 (fun hc hm2 hw=>Gj (List.all_eq_true.1 hkf hc hm2) hw hq2) g hg]
   rfl
  have e1:Wd (Ym (Z1++Z2)++Zr hs0) (Z1++Z2) acc Us=(Wd (Ym Z1) (Z1++Z2) acc Us++Z2)++Wd (Zr hs0) (Z1++Z2) acc Us:=by
   rw [Cf,Qbe,Cf,e2]
  have e3:Wd (Ym Z1++Zr hs0) (Z1++Z2) acc Us=Wd (Ym Z1) (Z1++Z2) acc Us++Wd (Zr hs0) (Z1++Z2) acc Us:=Cf
  rw [e1] at hR
  have hperm:(((Wd (Ym Z1) (Z1++Z2) acc Us++Z2)++Wd (Zr hs0) (Z1++Z2) acc Us)++(M1++F1)).Perm ((Wd (Ym Z1++Zr hs0) (Z1++Z2) acc Us++M1)++S.fixM):=by
   rw [e3]
   have p1:((Wd (Ym Z1) (Z1++Z2) acc Us++Z2)++Wd (Zr hs0) (Z1++Z2) acc Us).Perm ((Wd (Ym Z1) (Z1++Z2) acc Us++Wd (Zr hs0) (Z1++Z2) acc Us)++Z2):=by
    rw [List.append_assoc,List.append_assoc]
    exact List.Perm.append_left _ List.perm_append_comm
   exact ((p1.append_right _).trans (Q4l _ _ _ _)).trans (List.Perm.append_left _ hf)
  refine Rel.less (Rel.permM hR hperm) fun e he=>?_
  rcases List.mem_append.1 he with he | he
  ·rcases List.mem_append.1 he with he | he
   ·exact List.mem_append_left _ he
   ·exact List.mem_append_right _ (List.mem_append_right _ (List.mem_append_left _ he))
  ·exact List.mem_append_right _ (List.mem_append_right _ (List.mem_append_right _ he))
end
end Gx

/- Ranges over maps: what is set aside in a round; the entries that are left. -/
namespace Gx
open Go Go.RowKit Gd
set_option linter.unusedVariables false
set_option linter.unusedSimpArgs false
section
variable {P:Program} {Y:TX} {X:Cx} {β β':Nat→Nat} {ρ ρ':Nat→Value} {S S':St} {a a':Act} {w w':World} {Dx:List DF} {F:List TL}
def Wf (X:Cx) (β:Nat→Nat) (ρ:Nat→Value) (S:St) (Dx:List DF) (F:List TL) (a:Act) (w:World):Prop :=
 Sb (fun _=>0) X [] (Dx++S.env.map (enD β ρ a)) [] (Qc β ρ S.mem++F) a w
abbrev okF (X:Cx) (β:Nat→Nat) (ρ:Nat→Value) (mem:List (Nat×Ob)) (F:List TL) (w:World):Ok:=Q5 X.ok X.w.heap.size (fun _=>0) [] (Qc β ρ mem++F) w
theorem Qgs {gl:List (Nat×Σ t:Ty,t.De)} (hG:Vf gl (okN X) X.w) (hr:X.res=[]) (hp:X.pin=none) (h:Wf X β ρ S Dx F a w) (hV:Vu S.mem=true) :
    ∃X1:Cx,X1.n=X.n∧X1.res=[]∧X1.pin=none∧Vf gl (okN X1) X1.w∧Rel X1 β ρ S a w ∧
      ∀(β':Nat→Nat) (ρ':Nat→Value) (S':St) (a':Act) (w':World),Rel X1 β' ρ' S' a' w'→Wf X β' ρ' S' Dx F a' w':=by
  have hS:Sb (fun _=>0) X [] (Dx++S.env.map (enD β ρ a)) [] (Qc β ρ S.mem++F) a w:=h
  have hL1:∀t∈Qc β ρ S.mem,∀g,t.blks g→g∈Kf w.heap.size (Qc β ρ S.mem):=fun t ht g hg=>by
    unfold Kf
    exact List.mem_filter.2 ⟨List.mem_range.2 (hS.olt (List.mem_append_left _ ht) hg),by simp only [decide_eq_true_eq]; exact ⟨t,ht,hg⟩⟩
  have hL2:∀g∈Kf w.heap.size (Qc β ρ S.mem),∃t∈Qc β ρ S.mem,t.blks g:=fun g hg=>by
    unfold Kf at hg
    have:=(List.mem_filter.1 hg).2
    simpa only [decide_eq_true_eq] using this
  have hcov:∀t∈Qc β ρ S.mem,∀b o,t.blks b→t.cov b o:=fun t ht b o hb=>by
    obtain ⟨q,hq,rfl⟩:=List.mem_map.1 ht
    exact Au hV hq hb
  have hk:∀b f,Q5 X.ok X.w.heap.size (fun _=>0) [] (Qc β ρ S.mem++F) w b f→Q5 (okL (Kf w.heap.size (Qc β ρ S.mem)) (Q5 X.ok X.w.heap.size (fun _=>0) [] (Qc β ρ S.mem++F) w)) w.heap.size (fun _=>0) [] (Qc β ρ S.mem) w b f :=
    fun b f hbo=>⟨.inl (.inl hbo),hbo.2.1,by simp,fun t ht hc=>hbo.2.2.2 t (List.mem_append_left _ ht) hc⟩
  refine ⟨{ cxL (Kf w.heap.size (Qc β ρ S.mem)) X.n (Q5 X.ok X.w.heap.size (fun _=>0) [] (Qc β ρ S.mem++F) w) w with dfs:=X.dfs },rfl,rfl,rfl,?_,?_,fun β' ρ' S' a' w' hR=>?_⟩
  · exact (Wu hS hG).weak fun b f hbo=>⟨.inl hbo,fun hbl=>by
      obtain ⟨t,ht,hg⟩:=hL2 b hbl
      exact hbo.2.2.2 t (List.mem_append_left _ ht) (hcov t ht b f hg),hbo.2.1⟩
  · exact { sz:=hS.sz,df:=hS.df,fr:=by simp,pn:=by simp,tm:=by simp,bel:=Vq.refl _ _ _,obj:=by simp,dHH:=by simp,dHO:=by simp,
            dat:=Jf.2 fun x hx=>by
              obtain ⟨e,he,rfl⟩:=List.mem_map.1 hx
              exact (enD β ρ a e).weak (Jf.1 hS.dat _ (List.mem_append_right _ (List.mem_map.2 ⟨e,he,rfl⟩))) hk,
            own:=fun t ht=>⟨t.weak (hS.own t (List.mem_append_left _ ht)).1 hk,fun g hg=>.inr (hL1 t ht g hg)⟩,
            dOO:=(List.pairwise_append.1 hS.dOO).1 }
  · have hC:=Sb.callO (O1':=Qc β' ρ' S'.mem) hS hR.bel hL2 hcov (fun t ht=>⟨(hR.own t ht).1,fun g hg=>(hR.own t ht).2 g hg⟩) hR.dOO
    exact { sz:=hR.sz,df:=hR.df,fr:=by rw [hr]; simp,pn:=by rw [hp]; simp,tm:=by simp,bel:=hC.bel,obj:=by simp,own:=hC.own,dHH:=by simp,dHO:=by simp,dOO:=hC.dOO,
            dat:=Jf.2 fun x hx=>by
              rcases List.mem_append.1 hx with hx | hx
              · exact Jf.1 hC.dat _ (List.mem_append_left _ hx)
              · obtain ⟨e,he,rfl⟩:=List.mem_map.1 hx
                have h1:=Jf.1 hR.dat _ (List.mem_map.2 ⟨e,he,rfl⟩)
                exact (enD β' ρ' a' e).weak h1 fun b f hbf=>Hg hS hR.bel.size hL2 b f hbf }
theorem Wf.en (h:Wf X β ρ S Dx F a w) {e:En} (he:e∈S.env):(enD β ρ a e).p (okF X β ρ S.mem F w) w:=Jf.1 h.dat _ (List.mem_append_right _ (List.mem_map.2 ⟨e,he,rfl⟩))
theorem Wf.act (h:Wf X β ρ S Dx F a w) {env':List En} (hs:a'.tmps.size=a.tmps.size) (hd:a'.defers=a.defers) (hr:X.res=[])
  (he:∀e∈env',(enD β ρ a' e).p (okF X β ρ S.mem F w) w):Wf X β ρ ⟨env',S.mem⟩ Dx F a' w :=
 {sz:=hs.trans h.sz,df:=hd.trans h.df,fr:=by rw [hr]; simp,pn:=h.pn,tm:=by simp,bel:=h.bel,
  dat:=Jf.2 fun d hd=>by
   rcases List.mem_append.1 hd with hd | hd
   ·exact Jf.1 h.dat _ (List.mem_append_left _ hd)
   ·obtain ⟨e,hm,rfl⟩:=List.mem_map.1 hd; exact he e hm,
  obj:=h.obj,own:=h.own,dHH:=h.dHH,dHO:=h.dHO,dOO:=h.dOO }
theorem Wf.en_put (h:Wf X β ρ S Dx F a w) {d:Nat} (v:Value) {e:En} (he:e∈Jx S.env d):(enD β ρ (a.put (some d) v) e).p (okF X β ρ S.mem F w) w:=by
 obtain ⟨h1,h2,h3⟩:=X9 he
 have hcc:Jw (a.put (some d) v) e.cs↔Jw a e.cs:=⟨fun hc c hm=>by rw [←Y2 (h3 c hm) v]; exact hc c hm,fun hc c hm=>by rw [Y2 (h3 c hm) v]; exact hc c hm⟩
 refine ⟨fun hc=>?_,?_⟩
 ·obtain ⟨cs,h4,h5⟩:=(h.en h1).1 (hcc.1 hc)
  exact ⟨cs,by rw [If h2]; exact h4,h5⟩
 ·rw [hcc,If h2]; exact (h.en h1).2
theorem Wf.del (h:Wf X β ρ S Dx F a w) (hr:X.res=[]) {d:Nat} (v:Value):Wf X β ρ ⟨Jx S.env d,S.mem⟩ Dx F (a.put (some d) v) w :=
 h.act (by simp [Act.put]) rfl hr fun e he=>h.en_put v he
theorem Wf.put0 (h:Wf X β ρ S Dx F a w) (hr:X.res=[]) {d:Nat} (hd:okD X d=true) {x:AV} {c:List Value} (hx:cr β ρ (okF X β ρ S.mem F w) w false x c):Wf X β ρ ⟨⟨d,[],x⟩::Jx S.env d,S.mem⟩ Dx F (a.put (some d) (x.val c)) w:=by
 refine h.act (by simp [Act.put]) rfl hr fun e he=>?_
 rcases List.mem_cons.1 he with rfl | he
 ·refine ⟨fun _=>⟨c,?_,hx⟩,.inl (Qa _)⟩
  rw [Xh (Xw hd)]
  simp [Act.put,h.sz,Kl hd]
 ·exact h.en_put _ he
theorem Wf.less (h:Wf X β ρ S Dx F a w) (hr:X.res=[]) {env':List En} (he:∀e∈env',e∈S.env):Wf X β ρ ⟨env',S.mem⟩ Dx F a w :=
 h.act rfl rfl hr fun e hm=>h.en (he e hm)
def Y3 (g:Nat) (o:Obj):TL where
 blks:=fun b=>b=g
 cov:=fun b _=>b=g
 cb:=fun h=>h
 p:=fun _ w=>w.heap[g]?=some o
 keep:=fun h hb _=>by rw [hb _ rfl]; exact h
 weak:=fun h _=>h
 lt:=fun h b hb=>by subst hb; exact Yl h
def Dd {k v:Ty} (xs:List (k.De×v.De)) (es:List MapEntry):DF where
 p:=fun ok w=>Kn (rt k) (rt v) ok w xs es
 evo:=fun h he=>Xg h he
 weak:=fun h hk=>Uu h hk
theorem Qlv {k v:Ty} {xs:List (k.De×v.De)} {m:Nat} {env:List En} {M:List (Nat×Ob)} (h:Rel X β ρ ⟨env,(m,.map k v xs)::M⟩ a w) (hr:X.res=[]) :
  ∃es clock,w.heap[β m]?=some (.map es clock)∧(xs.map Prod.fst).Nodup∧(es.toList.map MapEntry.born).Nodup∧(∀e∈es.toList,e.born<clock)∧Kn (rt k) (rt v) (okR X β ρ ((m,.map k v xs)::M) w) w xs es.toList ∧
   ∀o:Obj,Wf X β ρ ⟨env,M⟩ [Dd xs es.toList] [Y3 (β m) (.map es clock),Y3 w.heap.size o] a (w.alloc o):=by
 have hS:Sb (fun _=>0) X [] (env.map (enD β ρ a)) [] (Hs (β m) (rt k) (rt v) xs::Qc β ρ M) a w:=h
 obtain ⟨⟨es,clock,q1,q2,q3,q4,q5⟩,hmine⟩:=hS.own _ (.head _)
 refine ⟨es,clock,q1,q3,q4,q5,q2,fun o=>?_⟩
 have hbel:Below w.heap.size w (w.alloc o):=(Below.refl _ _).alloc (Nat.le_refl _) _
 have hevo:Evo (Q5 X.ok X.w.heap.size (fun _=>0) [] (Hs (β m) (rt k) (rt v) xs::Qc β ρ M) w) w (w.alloc o):=(Evo.of_below hbel).mono fun b o hk=>hk.2.1
 have hok:∀b f,Q5 X.ok X.w.heap.size (fun _=>0) [] (Hs (β m) (rt k) (rt v) xs::Qc β ρ M) w b f→Q5 X.ok X.w.heap.size (fun _=>0) [] (Qc β ρ M++[Y3 (β m) (.map es clock),Y3 w.heap.size o]) (w.alloc o) b f:=by
  rintro b f ⟨h1,h2,h3,h4⟩
  refine ⟨h1,Nat.lt_of_lt_of_le h2 hbel.size,h3,fun t ht hc=>?_⟩
  rcases List.mem_append.1 ht with ht | ht
  ·exact h4 t (.tail _ ht) hc
  ·rcases List.mem_cons.1 ht with rfl | ht
   ·exact h4 _ (.head _) hc
   ·rcases List.mem_cons.1 ht with rfl | ht
    ·have hc:b=w.heap.size:=hc
     omega
    ·cases ht
 have hlt:β m<w.heap.size:=Yl q1
 have hblk:∀g,g<w.heap.size→(w.alloc o).heap[g]?=w.heap[g]?:=fun g hg=>hbel.block g hg
 have hpw:=List.pairwise_cons.1 hS.dOO
 refine { sz:=hS.sz,df:=hS.df,fr:=by rw [hr]; simp,pn:=hS.pn,tm:=by simp,bel:=hS.bel.trans (Vq.of _ (hbel.mono hS.bel.size)),obj:=by simp,dHH:=by simp,dHO:=by simp,dat:=?_,own:=?_,dOO:=?_ }
 ·refine Jf.2 fun x hx=>?_
  rcases List.mem_append.1 hx with hx | hx
  ·rw [List.mem_singleton] at hx
   subst hx
   exact Uu (Xg q2 hevo) hok
  ·exact x.weak (x.evo (Jf.1 hS.dat _ hx) hevo) hok
 ·intro t ht
  rcases List.mem_append.1 ht with ht | ht
  ·have h1:=hS.own t (.tail _ ht)
   exact ⟨t.weak (t.keep h1.1 (fun g hg=>hblk g (t.lt h1.1 g hg)) hevo) hok,h1.2⟩
  ·rcases List.mem_cons.1 ht with rfl | ht
   ·exact ⟨by show (w.alloc o).heap[β m]?=_; rw [hblk _ hlt]; exact q1,hmine⟩
   ·rcases List.mem_cons.1 ht with rfl | ht
    ·exact ⟨heap_alloc_new w o,fun g hg=>.inl (by have hg:g=w.heap.size:=hg; rw [hg]; exact hS.bel.size)⟩
    ·cases ht
 ·refine List.pairwise_append.2 ⟨hpw.2,?_,fun t ht u hu g hg hg2=>?_⟩
  ·refine List.pairwise_cons.2 ⟨fun u hu g hg hg2=>?_,List.pairwise_singleton _ _⟩
   rw [List.mem_singleton] at hu
   subst hu
   have hg:g=β m:=hg
   have hg2:g=w.heap.size:=hg2
   omega
  ·rcases List.mem_cons.1 hu with rfl | hu
   ·exact hpw.1 t ht g hg2 hg
   ·rw [List.mem_singleton] at hu
    subst hu
    have hg2:g=w.heap.size:=hg2
    have:=t.lt (hS.own t (.tail _ ht)).1 g hg
    omega
theorem Wf.unpin {k v:Ty} {xs:List (k.De×v.De)} {m r:Nat} {es:Array MapEntry} {clock:Nat} {o:Obj} (h:Wf X β ρ S [Dd xs es.toList] [Y3 (β m) (.map es clock),Y3 r o] a w) (hn1:(xs.map Prod.fst).Nodup)
  (hn2:(es.toList.map MapEntry.born).Nodup) (hc:∀e∈es.toList,e.born<clock):Rel X β ρ ⟨S.env,(m,.map k v xs)::S.mem⟩ a w:=by
 have hS:Sb (fun _=>0) X [] ([Dd xs es.toList]++S.env.map (enD β ρ a)) [] (Qc β ρ S.mem++[Y3 (β m) (.map es clock),Y3 r o]) a w:=h
 have hok:∀b f,Q5 X.ok X.w.heap.size (fun _=>0) [] (Qc β ρ S.mem++[Y3 (β m) (.map es clock),Y3 r o]) w b f→Q5 X.ok X.w.heap.size (fun _=>0) [] (Hs (β m) (rt k) (rt v) xs::Qc β ρ S.mem) w b f:=by
  rintro b f ⟨h1,h2,h3,h4⟩
  refine ⟨h1,h2,h3,fun t ht hc=>?_⟩
  rcases List.mem_cons.1 ht with rfl | ht
  ·exact h4 (Y3 (β m) (.map es clock)) (List.mem_append_right _ (.head _)) hc
  ·exact h4 t (List.mem_append_left _ ht) hc
 have hpw:=List.pairwise_append.1 hS.dOO
 have hpin:=hS.own (Y3 (β m) (.map es clock)) (List.mem_append_right _ (.head _))
 have hmp:Kn (rt k) (rt v) _ w xs es.toList:=Jf.1 hS.dat (Dd xs es.toList) (.head _)
 refine { sz:=hS.sz,df:=hS.df,fr:=hS.fr,pn:=hS.pn,tm:=by simp,bel:=hS.bel,obj:=by simp,dHH:=by simp,dHO:=by simp,dat:=?_,own:=?_,dOO:=?_ }
 ·exact Jf.2 fun x hx=>x.weak (Jf.1 hS.dat _ (List.mem_append_right _ hx)) hok
 ·intro t ht
  rcases List.mem_cons.1 ht with rfl | ht
  ·exact ⟨⟨es,clock,hpin.1,Uu hmp hok,hn1,hn2,hc⟩,hpin.2⟩
  ·have h1:=hS.own t (List.mem_append_left _ ht)
   exact ⟨t.weak h1.1 hok,h1.2⟩
 ·exact List.pairwise_cons.2 ⟨fun t ht g hg hg2=>hpw.2.2 t ht _ (.head _) g hg2 hg,hpw.1⟩
theorem Wf.setI {g r:Nat} {om o o':Obj} (h:Wf X β ρ S Dx [Y3 g om,Y3 r o] a w) {w1:World} (hw:w1=w∨w1=w.drew):Wf X β ρ S Dx [Y3 g om,Y3 r o'] a (Go.ChangeMaps.setBlock w1 r o'):=by
 have hS:Sb (fun _=>0) X [] (Dx++S.env.map (enD β ρ a)) [] ((Qc β ρ S.mem++[Y3 g om])++Y3 r o::[]) a w:=by
  have e:(Qc β ρ S.mem++[Y3 g om])++Y3 r o::[]=Qc β ρ S.mem++[Y3 g om,Y3 r o]:=by simp
  rw [e]; exact h
 have hp:w.heap[r]?=some o:=(hS.own (Y3 r o) (by simp)).1
 have hlt:=Yl hp
 have hheap:w1.heap=w.heap:=by rcases hw with rfl | rfl<;>rfl
 have:=Sb.upd (t':=Y3 r o') (w':=Go.ChangeMaps.setBlock w1 r o') hS rfl (by rcases hw with rfl | rfl<;>rfl) (by rcases hw with rfl | rfl<;>rfl) (by rcases hw with rfl | rfl<;>rfl) (by simp [Go.ChangeMaps.setBlock,hheap])
  (fun b hb hn=>by
   have hn:¬ b=r:=hn
   simp only [Go.ChangeMaps.setBlock,hheap]
   rw [Array.getElem?_setIfInBounds_ne (fun e=>hn e.symm)]) (fun b o hb=>hb) (fun g hg=>.inl hg)
  (fun _ _=>by
   show (Go.ChangeMaps.setBlock w1 r o').heap[r]?=some o'
   simp [Go.ChangeMaps.setBlock,hheap,hlt])
 have e:(Qc β ρ S.mem++[Y3 g om])++Y3 r o'::[]=Qc β ρ S.mem++[Y3 g om,Y3 r o']:=by simp
 rw [e] at this
 exact this
end
theorem Qlw {ε σ τ:Type} {f:ε→σ→Option (σ⊕τ)} {e:ε} {s:σ}:Ft f [e] s=f e s:=by
 simp only [Ft]
 split<;>simp_all
theorem Qdj {ε σ τ:Type} {f:ε→σ→Option (σ⊕τ)} {l:List ε} {s:σ} {z:σ⊕τ} (h:Nm f l s=some z):∀ys:List ε,ys.Perm l→Ft f ys s=some z:=by
 intro ys hp
 match l,h with
 | [],h =>
  have:=hp.eq_nil
  subst this
  exact h
 | [e],h =>
  have:=List.perm_singleton.1 hp
  subst this
  rw [Qlw]; exact h
 | e::e'::l,h =>
  simp only [Nm,Qck] at h
  split at h
  ·rename_i hc
   rw [hc ys hp]; exact h
  ·cases h
def Xz {κ:Type}:List MapEntry→List κ→Array Nat→List κ
 | e::es,x::xs,seen=>bif seen.contains e.born then Xz es xs seen else x::Xz es xs seen
 | _,_,_=>[]
theorem Mw {κ:Type}:∀{es:List MapEntry} {xs:List κ},es.length=xs.length→Xz es xs #[]=xs
 | [],[],_=>rfl
 | e::es,x::xs,h=>by
  simp only [Xz]
  rw [Mw (es:=es) (xs:=xs) (by simpa using h)]
  simp
 | [],_::_,h=>by simp at h
 | _::_,[],h=>by simp at h
theorem T2 {κ:Type} {b:Nat} {seen:Array Nat}:∀{es:List MapEntry} {xs:List κ},(∀e∈es,e.born≠b)→Xz es xs (seen.push b)=Xz es xs seen
 | [],xs,_=>by simp [Xz]
 | e::es,[],_=>by simp [Xz]
 | e::es,x::xs,h=>by
  have h1:(seen.push b).contains e.born=seen.contains e.born:=by
   have:=h e (.head _)
   rw [Bool.eq_iff_iff]
   simp [this]
  simp only [Xz,h1]
  rw [T2 fun e he=>h e (.tail _ he)]
theorem P7 {κ:Type} {e:MapEntry} {seen:Array Nat}:∀{es:List MapEntry} {xs:List κ},es.length=xs.length→(es.map MapEntry.born).Nodup→e∈es→seen.contains e.born=false →
  ∃x,(e,x)∈es.zip xs∧(Xz es xs seen).Perm (x::Xz es xs (seen.push e.born))
 | [],_,_,_,he,_=>by cases he
 | e0::es,[],h,_,_,_=>by simp at h
 | e0::es,x0::xs,h,hn,he,hs=>by
  have hn':e0.born∉es.map MapEntry.born∧(es.map MapEntry.born).Nodup:=List.nodup_cons.1 hn
  rcases List.mem_cons.1 he with rfl | he
  ·refine ⟨x0,.head _,?_⟩
   have h1:(seen.push e.born).contains e.born=true:=by simp
   simp only [Xz,hs,h1,cond_true,cond_false]
   rw [T2 fun e' he' hb=>hn'.1 (List.mem_map.2 ⟨e',he',hb⟩)]
  ·obtain ⟨x,h1,h2⟩:=P7 (xs:=xs) (by simpa using h) hn'.2 he hs
   refine ⟨x,.tail _ h1,?_⟩
   have hne:e0.born≠e.born:=fun hb=>hn'.1 (List.mem_map.2 ⟨e,he,hb.symm⟩)
   have h3:(seen.push e.born).contains e0.born=seen.contains e0.born:=by
    rw [Bool.eq_iff_iff]
    simp [hne]
   simp only [Xz,h3]
   cases seen.contains e0.born with
   | true=>simpa using h2
   | false =>
    simp only [cond_false]
    exact (h2.cons x0).trans (List.Perm.swap _ _ _)
theorem P8 {es:Array MapEntry} {seen:Array Nat} {e:MapEntry} (h:e∈(leftOf es seen).toList):e∈es.toList∧seen.contains e.born=false:=by
 unfold leftOf at h
 simp at h
 exact ⟨by simpa using h.1,by simpa using h.2⟩
theorem P9 {κ:Type} {seen:Array Nat}:∀{es:List MapEntry} {xs:List κ},(∀e∈es,seen.contains e.born=true)→Xz es xs seen=[]
 | [],_,_=>by simp [Xz]
 | _::_,[],_=>by simp [Xz]
 | e::es,x::xs,h=>by
  simp only [Xz,h e (.head _),cond_true]
  exact P9 fun e he=>h e (.tail _ he)
theorem Qdk {es:Array MapEntry} {seen:Array Nat} (h:(leftOf es seen).size=0):∀e∈es.toList,seen.contains e.born=true:=by
 intro e he
 unfold leftOf at h
 have h0:=Array.eq_empty_of_size_eq_zero h
 rw [Array.filter_eq_empty_iff] at h0
 have:=h0 e (by simpa using he)
 simpa using this
theorem Qdl {es:Array MapEntry} {seen:Array Nat} {e:MapEntry} (h:e∈(leftOf es seen).toList):(leftOf es (seen.push e.born)).size<(leftOf es seen).size:=by
 obtain ⟨h1,h2⟩:=P8 h
 have hs:∀s:Array Nat,(leftOf es s).size=(es.toList.filter fun x=>!s.contains x.born).length:=fun s=>by
  unfold leftOf
  rw [←Array.toList_filter,Array.length_toList]
 rw [hs,hs]
 refine filter_lt (fun x=>!seen.contains x.born) (fun x=>!(seen.push e.born).contains x.born) (fun x hx=>?_) e (by rw [h2]; rfl) (by simp) _ h1
 simp at hx ⊢
 exact hx.1
theorem Qdm {k v:Ty} {ok:Ok} {w:World}:∀{xs:List (k.De×v.De)} {es:List MapEntry},Kn (rt k) (rt v) ok w xs es→es.length=xs.length
 | [],es,h=>by have h:es=[]:=h; subst h; rfl
 | x::xs,es,⟨e,es',h,_,_,h3⟩=>by subst h; simp [Qdm h3]
theorem Qdn {k v:Ty} {ok:Ok} {w:World}:∀{xs:List (k.De×v.De)} {es:List MapEntry},Kn (rt k) (rt v) ok w xs es→∀q∈es.zip xs,isV (rt k) ok w q.2.1 q.1.key∧isV (rt v) ok w q.2.2 q.1.val
 | [],es,h,q,hq=>by simp at hq
 | x::xs,es,⟨e,es',h,h1,h2,h3⟩,q,hq=>by
  subst h
  rcases List.mem_cons.1 hq with rfl | hq
  ·exact ⟨h1,h2⟩
  ·exact Qdn h3 q hq
end Gx

/- Ranges over maps: the rounds. -/
namespace Gx
open Go Go.RowKit Gd
set_option linter.unusedVariables false
set_option linter.unusedSimpArgs false
section
section
variable {P:Program} {Y:TX} {X:Cx} {S:XS} {β β':Nat→Nat} {ρ ρ':Nat→Value} {a a':Act} {w w':World} {n N:Nat} {K:List Con}
variable {Q:Exit→Act→World→Prop} {R:Type} {r:R}
def Ex.exit:Ex→Exit
 | .n=>.normal
 | .x i=>.exit i
 | .r=>.ret
theorem Ex.beq_ok {a b:Ex} (h:Ex.beq a b=true):a=b:=by
 cases a<;>cases b<;>simp [Ex.beq] at h<;>first | rfl | (rw [h])
def COk (Q:Exit→Act→World→Prop) (X:Cx) (S0:XS) (β:Nat→Nat) (ρ:Nat→Value) {R:Type} (k:Ex→XS→Option R) (r:R):Prop :=
 ∀(e:Ex) (β':Nat→Nat) (ρ':Nat→Value) (S':XS) (a':Act) (w':World),k e S'=some r→Vo S0 S' β β' ρ ρ'→Rel X β' ρ' S'.flat a' w'→Q e.exit a' w'
theorem COk.after {k:Ex→XS→Option R} (h:COk Q X S β ρ k r) {S1:XS} {β1:Nat→Nat} {ρ1:Nat→Value} (hk:Vo S S1 β β1 ρ ρ1):COk Q X S1 β1 ρ1 k r :=
 fun e β' ρ' S' a' w' h1 h2 h3=>h e β' ρ' S' a' w' h1 (hk.trans h2) h3
theorem D2 {k:Ex→XS→Option R} (ks ms:List Nat):∀{l:Exs} {e:Ex} {S':XS} {x:Bf l},inj l e S'=some x→Qci S ks ms k l x=some r →
  S'.fix=(S.ent ks ms).fix∧S'.fixM=(S.ent ks ms).fixM∧S'.prot=(S.ent ks ms).prot→Rel X β ρ S'.flat a w →
  ∃β' ρ' S1,k e (S.out ks ms S1)=some r∧agP S.prot β β' ρ ρ'∧Rel X β' ρ' (S.out ks ms S1).flat a w
 | [q],e,S',x,hi,ho,hk,h=>by
  simp only [inj] at hi
  obtain ⟨hb,hd⟩:=bvT hi
  have:=Ex.beq_ok hb
  subst this
  obtain ⟨β',ρ',h1,h2⟩:=Gv (S0:=S.ent ks ms) h hk hd
  rw [←Cc] at h2
  exact ⟨β',ρ',enc q.2 x,ho,h1,h2⟩
 | q::q2::l,e,S',x,hi,ho,hk,h=>by
  simp only [inj] at hi
  cases hb:Ex.beq q.1 e with
  | true =>
   rw [hb] at hi
   have:=Ex.beq_ok hb
   subst this
   simp only [cond_true] at hi
   split at hi
   ·rename_i y hd
    injection hi with hi; subst hi
    obtain ⟨β',ρ',h1,h2⟩:=Gv (S0:=S.ent ks ms) h hk hd
    rw [←Cc] at h2
    exact ⟨β',ρ',enc q.2 y,ho,h1,h2⟩
   ·cases hi
  | false =>
   rw [hb] at hi
   simp only [cond_false] at hi
   split at hi
   ·rename_i y hd
    injection hi with hi; subst hi
    exact D2 ks ms hd ho hk h
   ·cases hi
end
variable {P:Program} {Y:TX} {X:Cx} {n N:Nat} {K:List Con} {β:Nat→Nat} {ρ:Nat→Value} {a:Act} {w:World} {Q:Exit→Act→World→Prop} {R:Type} {r:R} {k:Ex→XS→Option R} {S1:XS}
theorem Mx:∀{l m:List (Nat×Ob)},Vu l=true→Vu m=true→Vu (l++m)=true
 | [],m,_,h=>h
 | (i,o)::l,m,h1,h2=>by
  have h3:Vu l=true:=by cases o<;>first | exact h1 | cases h1
  have ih:=Mx h3 h2
  cases o<;>first | exact ih | cases h1
theorem Ra:∀{l:List (Nat×SkO)} {vs:List DV},Nn l=true→Vu (Ux l vs)=true
 | [],_,_=>rfl
 | (t,o)::l,vs,h=>by
  have h2:Nn l=true:=by cases o<;>first | exact h | cases h
  simp only [Ux]
  cases he:Wo o vs with
  | none=>rfl
  | some q =>
   obtain ⟨x,r⟩:=q
   have ih:=Ra (vs:=r) h2
   cases o with
   | tail e t=>cases h
   | mapT k u p e t=>cases h
   | var tid c =>
    simp only [Wo,Option.some.injEq,Prod.mk.injEq] at he
    obtain ⟨rfl,rfl⟩:=he
    exact ih
   | row e t =>
    cases vs with
    | nil=>simp [Wo] at he
    | cons v vs =>
     simp only [Wo] at he
     split at he
     ·simp only [Option.some.injEq,Prod.mk.injEq] at he
      obtain ⟨rfl,rfl⟩:=he
      exact ih
     ·cases he
   | map kk u =>
    cases vs with
    | nil=>simp [Wo] at he
    | cons v vs =>
     simp only [Wo] at he
     split at he
     ·simp only [Option.some.injEq,Prod.mk.injEq] at he
      obtain ⟨rfl,rfl⟩:=he
      exact ih
     ·cases he
   | mapO kk =>
    cases vs with
    | nil=>simp [Wo] at he
    | cons v vs =>
     simp only [Wo] at he
     split at he
     ·simp only [Option.some.injEq,Prod.mk.injEq] at he
      obtain ⟨rfl,rfl⟩:=he
      exact ih
     ·cases he
theorem Qdo {t:Nat} {v:Value} (h:rd a t=some v) (hb:Nat.blt t 100000=true):a.eval (.tmp t)=v:=by
 rw [Xh hb] at h
 simp [Act.eval,h]
theorem C1 {ops:Array Oper} {o:Oper} {d:Nat} {v:Value} {w':World} (hg:o.guard=none) (hd:o.dst=some d) (hr:(execOp a.eval o).run P w=.ok (.value v) w') {rest:List Oper} (h:wpList P ops Q rest (a.put (some d) v) w'):wpList P ops Q (o::rest) a w :=
 Q8 (Ua hg _) (Jv hr (by rw [hd]; exact h))
theorem isVal {t:Ty} {ok:Ok} {x:t.De} {v:Value} (h:isV (rt t) ok w x v):∃c,v=(AV.d t x).val c∧cr β ρ ok w false (.d t x) c:=by
 obtain ⟨cs,h1,h2⟩:=He h
 exact ⟨cs,h2,h1⟩
theorem Qdp {d:Nat}:∀{l:List En},G2 d l=true→Jx l d=l
 | [],_=>rfl
 | e::l,h=>by
  have h1:(Nat.beq e.t d||Fq d e.cs)=false∧G2 d l=true:=by simpa only [G2,Bool.and_eq_true,Bool.not_eq_true'] using h
  simp only [Jx,h1.1,cond_false]
  rw [Qdp h1.2]
theorem Q9w (hT:Qy P Y.T) (hK:KsX P Y X K) (hX:X.n=n) (hr:X.res=[]) (hpin:X.pin=none) {m it nx mo pr mt t:Nat} {ks ms:List Nat} {Γ:Shp} {exs:Exs} {out nxt:Nat} {kk vv:Ty} {xs:List (kk.De×vv.De)} {tk:TE}
  {body:XS→(Ex→XS→Option (Γ.De⊕Bf exs))→Option (Γ.De⊕Bf exs)} {ops:Array Oper} {ty1 ty2 ty3 ty4:TypeId} {p1 p2 p3 p4:String} {f1 f2 f3 f4:Array Edge} {ops3:List Oper} {c:Code} {i1 i2:Nat}
  (h:Rel X β ρ S1.flat a w) (hm:S1.ev [] (.tmp mt)=some (.m m)) (htk:Qe Y.T t=some tk) (hl:Qb (mpE S1 ks ms m).fixM m=some (.map kk vv xs))
  (hs:Qpi n S1 m it nx mo pr ks ms Γ exs out nxt kk vv xs tk body k=some r) (H:COk Q X S1 β ρ k r)
  (hb:∀(X1:Cx) (β:Nat→Nat) (ρ:Nat→Value) (a:Act) (w:World) (S3:XS) (k1:Ex→XS→Option (Γ.De⊕Bf exs)) (r1:Γ.De⊕Bf exs) (Q1:Exit→Act→World→Prop),X1.n=n→X1.res=[]→X1.pin=none→KsX P Y X1 K→Rel X1 β ρ S3.flat a w→body S3 k1=some r1→COk Q1 X1 S3 β ρ k1 r1 →
   wpList P ⟨⟨some pr,.entry (.tmp it),ty4,p4,f4,none⟩::ops3⟩ (Exit.then (c.wp P Q1) Q1) ops3 a w) :
  wpList P ops (Exit.then ((Code.block out (.loop (.seq (.region i1 ⟨[⟨some nx,.next (.tmp it) false,ty2,p2,f2,none⟩,⟨some mo,.extract (.tmp nx) 0,ty3,p3,f3,none⟩]⟩ false) (.seq (.cond (.tmp mo) .skip (.exit out)) (.block nxt (.seq (.region i2 ⟨⟨some pr,.entry (.tmp it),ty4,p4,f4,none⟩::ops3⟩ false) c)))))).wp P Q) Q)
   [⟨some it,.range t (.tmp mt),ty1,p1,f1,none⟩] a w:=by
 unfold Qpi at hs
 split at hs
 case h_2=>cases hs
 rename_i s0 hs0
 obtain ⟨hok,hs⟩:=bvT hs
 unfold Q9o at hok
 simp only [Bool.and_eq_true,Bool.not_eq_true'] at hok
 obtain ⟨⟨⟨⟨⟨⟨⟨hmap,hW,hoE⟩,hIE,hIF⟩,⟨hfE,hfM⟩,hfp⟩,⟨hWn,hWm⟩,hWp⟩,hNK⟩,hNB⟩,hne⟩:=hok
 have hne:mo≠nx:=fun e=>by rw [e,Nat.beq_refl] at hne; cases hne
 obtain ⟨E,hE⟩:∃E,E=mpE S1 ks ms m:=⟨_,rfl⟩
 rw [←hE] at hs hs0 hl hW hIF hfM hfp hWn hWm hWp hNB
 obtain ⟨B0,hB0⟩:∃B0,B0=mpB E it m:=⟨_,rfl⟩
 rw [←hB0] at hs hNB hWn hWm hWp
 have hEf:E.fix=Nb S1.env ks++S1.fix:=by rw [hE]; rfl
 have hEM:E.fixM=(Je S1.mem ms).2++S1.fixM:=by rw [hE]; rfl
 have hEp:E.prot=m::S1.prot:=by rw [hE]; rfl
 have hB0p:B0.prot=it::m::S1.prot:=by rw [hB0,←hEp]; rfl
 have hB0f:B0.fix=⟨it,[],.p it []⟩::E.fix:=by rw [hB0]; rfl
 have hB0M:B0.fixM=J3 E.fixM m:=by rw [hB0]; rfl
 obtain ⟨hd,hoff⟩:=J7 hW hX hr
 obtain ⟨kt,et,htd⟩:∃kt et,tk.d=.map kt et:=by
  cases hd':tk.d<;>rw [hd'] at hmap<;>first | (cases hmap; done) | exact ⟨_,_,rfl⟩
 have hu:=(Js hT htk).2
 rw [htd] at hu
 have hmne:m≠it:=(U8 hfM _ (Fv hl)).1
 obtain ⟨cs,hev,hcs⟩:=h.ev (Qa a) hm
 have hcs:cs=[.map (some (β m))]:=hcs
 subst hcs
 have hev:a.eval (.tmp mt)=.map (some (β m)):=hev
 have hE1:Rel X β ρ E.flat a w:=by
  rw [hE]
  exact Rel.ent (S:=⟨S1.env,S1.fix,S1.mem,S1.fixM,m::S1.prot⟩) h ks ms
 obtain ⟨β0,ρ0,hag0,hR⟩:=Gv (S0:=E) hE1 ⟨rfl,rfl,rfl⟩ hs0
 rw [hEp] at hag0
 obtain ⟨x0,hx0⟩:∃x0,x0=enc Γ s0:=⟨_,rfl⟩
 rw [←hx0] at hR hoE hIE hfE
 have hR:Rel X β0 ρ0 ⟨x0.env++E.fix,x0.mem++E.fixM⟩ a w:=hR
 obtain ⟨β1,hβ1⟩:∃β1,β1=upd β0 it w.heap.size:=⟨_,rfl⟩
 have hβm:β1 m=β m:=by rw [hβ1,Uv β0 _ hmne]; exact (hag0 m (.head _)).1
 have hβi:β1 it=w.heap.size:=by rw [hβ1]; exact Jn β0 it _
 have hoffB:Dc it β0 β1 ρ0 ρ0:=fun i hi=>⟨by rw [hβ1]; exact Uv β0 _ hi,rfl⟩
 have hfr:Qv it (x0.mem++E.fixM)=true:=by
  have key:∀{l k:List (Nat×Ob)},Qv it l=true→Qv it k=true→Qv it (l++k)=true:=fun {l k} h1 h2=>by
   have:=Zv (S:=⟨[],[],l,k,[]⟩) (d:=it) (by simp [okB,h1,h2,B1,J9])
   exact this.1
  exact key hfE hfM
 have h1:Rel X β1 ρ0 ⟨x0.env++E.fix,x0.mem++E.fixM⟩ a w:=Rel.off hR hoffB hfr fun e he=>by
  refine ⟨he,?_⟩
  rcases List.mem_append.1 he with he | he
  ·exact H2 hIE e he
  ·exact H2 hIF e he
 have h2:=h1.put0 hd (x:=.p it []) (c:=[.pointer (some ⟨β1 it,0,none⟩)]) rfl
 have h3:Rel X β1 ρ0 ⟨x0.env++B0.fix,x0.mem++E.fixM⟩ (a.put (some it) (.pointer (some ⟨β1 it,0,none⟩))) w:=Rel.less (S:=St.put ⟨x0.env++E.fix,x0.mem++E.fixM⟩ it [] (.p it [])) h2 fun e he=>by
  have hrem:Jx (x0.env++E.fix) it=x0.env++E.fix:=by rw [Z6 hoff,Qdp hoE]
  show e∈_::Jx (x0.env++E.fix) it
  rw [hrem]
  rcases List.mem_append.1 he with he | he
  ·exact .tail _ (List.mem_append_left _ he)
  ·rw [hB0f] at he
   rcases List.mem_cons.1 he with rfl | he
   ·exact .head _
   ·exact .tail _ (List.mem_append_right _ he)
 have hperm:(x0.mem++E.fixM).Perm ((m,.map kk vv xs)::(x0.mem++B0.fixM)):=by
  rw [hB0M]
  exact ((Xt hl).append_left x0.mem).trans List.perm_middle
 obtain ⟨es,clock,q1,q2,q3,q4,q5,q6⟩:=Qlv (h3.permM hperm) hr
 have hlen:=Qdm q5
 have hrun:(execOp a.eval ⟨some it,.range t (.tmp mt),ty1,p1,f1,none⟩).run P w=.ok (.value (.pointer (some ⟨β1 it,0,none⟩))) (w.alloc (.mapIter (some (β1 m)) clock #[] clock)):=by
  unfold execOp
  simp only [hev]
  have:=run_range_map (P:=P) w t kt et (β m) es clock hu (by rw [←hβm]; exact q1)
  rw [hβi,hβm]
  simp [this,Result.andThen]
 refine C1 rfl rfl hrun ?_
 show (Code.block out _).wp P Q _ _
 refine wp_block ?_
 obtain ⟨z,hz,hend⟩:=Yh hs
 have hallz:=Qdj hz
 obtain ⟨f,hf⟩:∃f,f=No nxt body B0 nx mo pr kk vv:=⟨_,rfl⟩
 rw [←hf] at hallz
 have hblt:Nat.blt it 100000=true:=Xw hd
 have hsel:⟨it,[],.p it []⟩∈B0.fix:=by rw [hB0f]; exact .head _
 obtain ⟨dn,on⟩:=J7 hWn hX hr
 obtain ⟨dm,om⟩:=J7 hWm hX hr
 obtain ⟨dp,op⟩:=J7 hWp hX hr
 have hNMs:∀s:Γ.De,Vu ((B0.re (enc Γ s)).flat.mem)=true:=fun s=>Mx (Ra hNK) hNB
 have hI0:Wf X β1 ρ0 (B0.re (enc Γ s0)).flat [Dd xs es.toList] [Y3 (β1 m) (.map es clock),Y3 w.heap.size (.mapIter (some (β1 m)) clock #[] clock)] (a.put (some it) (.pointer (some ⟨β1 it,0,none⟩))) (w.alloc (.mapIter (some (β1 m)) clock #[] clock)):=by
  have:=q6 (.mapIter (some (β1 m)) clock #[] clock)
  rw [hx0] at this
  exact this
 have back:∀(β':Nat→Nat) (ρ':Nat→Value) (S':St) (env2:List En) (a':Act) (w':World) (o:Obj),β' m=β1 m→Wf X β' ρ' ⟨env2,S'.mem++B0.fixM⟩ [Dd xs es.toList] [Y3 (β1 m) (.map es clock),Y3 w.heap.size o] a' w' →
   (∀e∈Jx (Jx S'.env nx) mo,e∈env2)→(∀e∈E.fix,e∈env2)→Rel X β' ρ' (Qay S1 ks ms nx mo S').flat a' w':=by
  intro β' ρ' S' env2 a' w' o e3 hF hin hin2
  rw [←e3] at hF
  have u1:=hF.unpin q2 q3 q4
  have u2:Rel X β' ρ' ⟨(Qay S1 ks ms nx mo S').flat.env,(m,.map kk vv xs)::(S'.mem++B0.fixM)⟩ a' w':=Rel.less (S:=⟨env2,(m,.map kk vv xs)::(S'.mem++B0.fixM)⟩) u1 fun e he=>by
   have he:e∈(Jx (Jx S'.env nx) mo++Nb S1.env ks)++S1.fix:=he
   rw [List.append_assoc] at he
   rcases List.mem_append.1 he with he | he
   ·exact hin e he
   ·exact hin2 e (by rw [hEf]; exact he)
  refine u2.permM ?_
  show List.Perm _ ((S'.mem++(Je S1.mem ms).2)++S1.fixM)
  rw [List.append_assoc,←hEM,hB0M]
  exact (List.perm_middle.symm).trans ((Xt hl).symm.append_left S'.mem)
 refine Aa (fun fuel a' w'=>∃(s:Γ.De) (β':Nat→Nat) (ρ':Nat→Value) (seen:Array Nat) (c0:Nat),agP (it::m::S1.prot) β1 β' ρ0 ρ' ∧
   Wf X β' ρ' (B0.re (enc Γ s)).flat [Dd xs es.toList] [Y3 (β1 m) (.map es clock),Y3 w.heap.size (.mapIter (some (β1 m)) clock seen c0)] a' w'∧clock≤c0∧fuel=(leftOf es seen).size ∧
   ∀ys:List (kk.De×vv.De),ys.Perm (Xz es.toList xs seen)→Ft f ys s=some z) (leftOf es #[]).size ⟨s0,β1,ρ0,#[],clock,agP.refl _ _ _,hI0,Nat.le_refl _,rfl,fun ys hys=>hallz ys (by rw [Mw hlen] at hys; exact hys)⟩ ?_
 rintro fuel a1 w1 ⟨s,β',ρ',seen,c0,hag,hF,hc0,rfl,hfold⟩
 have hβ'i:β' it=w.heap.size:=by rw [(hag it (.head _)).1,hβi]
 have hβ'm:β' m=β1 m:=(hag m (.tail _ (.head _))).1
 have hpr:∀i∈S1.prot,i≠it:=fun i hi e=>by
  rw [hEp] at hfp
  rw [e] at hi
  rw [Zd.2 (List.mem_cons_of_mem m hi)] at hfp; cases hfp
 have hags:∀{β4:Nat→Nat} {ρ4:Nat→Value},agP (it::m::S1.prot) β1 β4 ρ0 ρ4→agP S1.prot β β4 ρ ρ4:=fun hg i hi=>by
  obtain ⟨g1,g2⟩:=hg i (.tail _ (.tail _ hi))
  obtain ⟨g3,g4⟩:=hag0 i (.tail _ hi)
  exact ⟨by rw [g1,hβ1,Uv β0 _ (hpr i hi),g3],by rw [g2,g4]⟩
 have hFs:Sb (fun _=>0) X [] _ [] (Qc β' ρ' (B0.re (enc Γ s)).flat.mem++[Y3 (β1 m) (.map es clock),Y3 w.heap.size (.mapIter (some (β1 m)) clock seen c0)]) a1 w1:=hF
 have hhm:w1.heap[β1 m]?=some (.map es clock):=(hFs.own (Y3 (β1 m) (.map es clock)) (by simp)).1
 have hhr:w1.heap[w.heap.size]?=some (.mapIter (some (β1 m)) clock seen c0):=(hFs.own (Y3 w.heap.size (.mapIter (some (β1 m)) clock seen c0)) (by simp)).1
 have hit:a1.eval (.tmp it)=.pointer (some ⟨w.heap.size,0,none⟩):=by
  obtain ⟨cs,g1,g2⟩:=(hF.en (e:=⟨it,[],.p it []⟩) (List.mem_append_right _ hsel)).1 (Qa _)
  have g2:cs=[.pointer (some ⟨β' it,0,none⟩)]:=g2
  subst g2
  rw [←hβ'i]
  exact Qdo g1 hblt
 have hadd:∀{d:Nat} {l:List En},G2 d B0.fix=true→Jx (l++B0.fix) d=Jx l d++B0.fix:=fun h=>Z6 h
 refine wp_seq (wp_region_list ?_)
 have hnext:=run_next_at (P:=P) w1 ty2 w.heap.size (β1 m) clock c0 seen es clock hhr hhm q4 hc0
 rcases hnext with ⟨hz0,hnx⟩ | ⟨e,he,w2,hw2,hnx⟩
 ·
  have hr1:(execOp a1.eval ⟨some nx,.next (.tmp it) false,ty2,p2,f2,none⟩).run P w1=.ok (.value (.tuple #[.bool false])) w1:=by
   unfold execOp
   simp only [hit]
   simp [hnx,Result.andThen]
  refine C1 rfl rfl hr1 ?_
  have ev1:(a1.put (some nx) (.tuple #[.bool false])).eval (.tmp nx)=.tuple #[.bool false]:=by
   simp [Act.eval,Act.put,hF.sz,Kl dn]
  have hr2:(execOp (a1.put (some nx) (.tuple #[.bool false])).eval ⟨some mo,.extract (.tmp nx) 0,ty3,p3,f3,none⟩).run P w1=.ok (.value (.bool false)) w1:=by
   unfold execOp
   simp only [ev1]
   simp [Instr.extract,Result.andThen]
  refine C1 rfl rfl hr2 ?_
  have hD:=(hF.del hr (d:=nx) (.tuple #[.bool false])).del hr (d:=mo) (.bool false)
  have ev2:((a1.put (some nx) (.tuple #[.bool false])).put (some mo) (.bool false)).eval (.tmp mo)=.bool false:=by
   simp [Act.eval,Act.put,hF.sz,Kl dm]
  show (Code.seq _ _).wp P _ _ _
  refine wp_seq (wp_cond_split ev2 (fun hh=>by cases hh) fun _=>wp_exit ?_)
  show Exit.inBlock out Q (.exit out) _ _
  simp only [Exit.inBlock,if_true]
  have hzz:some (.inl s)=some z:=by
   have:=hfold [] (by rw [P9 (Qdk hz0)])
   exact this
  injection hzz with hzz; subst hzz
  refine H .n β' ρ' _ _ _ hend ⟨rfl,rfl,rfl,hags hag⟩ ?_
  refine back β' ρ' (enc Γ s) _ _ _ _ hβ'm hD (fun e he=>?_) fun e he=>?_
  ·show e∈Jx (Jx ((enc Γ s).env++B0.fix) nx) mo
   rw [hadd on,hadd om]
   exact List.mem_append_left _ he
  ·show e∈Jx (Jx ((enc Γ s).env++B0.fix) nx) mo
   rw [hadd on,hadd om,hB0f]
   exact List.mem_append_right _ (.tail _ he)
 ·
  obtain ⟨hel,hsn⟩:=P8 he
  obtain ⟨x,hzip,hpm⟩:=P7 hlen q3 hel hsn
  have hF1:=hF.setI (o':=.mapIter (some (β1 m)) clock (seen.push e.born) clock) hw2
  obtain ⟨W,hW'⟩:∃W,W=Go.ChangeMaps.setBlock w2 w.heap.size (.mapIter (some (β1 m)) clock (seen.push e.born) clock):=⟨_,rfl⟩
  rw [←hW'] at hF1 hnx
  have hr1:(execOp a1.eval ⟨some nx,.next (.tmp it) false,ty2,p2,f2,none⟩).run P w1=.ok (.value (.tuple #[.bool true,e.key,e.val])) W:=by
   unfold execOp
   simp only [hit]
   simp [hnx,Result.andThen]
  refine C1 rfl rfl hr1 ?_
  have ev1:(a1.put (some nx) (.tuple #[.bool true,e.key,e.val])).eval (.tmp nx)=.tuple #[.bool true,e.key,e.val]:=by
   simp [Act.eval,Act.put,hF.sz,Kl dn]
  have hr2:(execOp (a1.put (some nx) (.tuple #[.bool true,e.key,e.val])).eval ⟨some mo,.extract (.tmp nx) 0,ty3,p3,f3,none⟩).run P W=.ok (.value (.bool true)) W:=by
   unfold execOp
   simp only [ev1]
   simp [Instr.extract,Result.andThen]
  refine C1 rfl rfl hr2 ?_
  have hD:=(hF1.del hr (d:=nx) (.tuple #[.bool true,e.key,e.val])).del hr (d:=mo) (.bool true)
  obtain ⟨a2,ha2⟩:∃a2,a2=(a1.put (some nx) (.tuple #[.bool true,e.key,e.val])).put (some mo) (.bool true):=⟨_,rfl⟩
  have ev2:a2.eval (.tmp mo)=.bool true:=by
   rw [ha2]; simp [Act.eval,Act.put,hF.sz,Kl dm]
  rw [←ha2] at hD ⊢
  show (Code.seq _ _).wp P _ _ _
  refine wp_seq (wp_cond_split ev2 (fun _=>wp_skip ?_) fun hh=>by cases hh)
  show (Code.block nxt _).wp P _ _ _
  refine wp_block (wp_seq (wp_region_list ?_))
  have hDs:Sb (fun _=>0) X [] _ [] (Qc β' ρ' (B0.re (enc Γ s)).flat.mem++[Y3 (β1 m) (.map es clock),Y3 w.heap.size (.mapIter (some (β1 m)) clock (seen.push e.born) clock)]) a2 W:=hD
  have hhm2:W.heap[β1 m]?=some (.map es clock):=(hDs.own (Y3 (β1 m) (.map es clock)) (by simp)).1
  have hhr2:W.heap[w.heap.size]?=some (.mapIter (some (β1 m)) clock (seen.push e.born) clock):=(hDs.own (Y3 w.heap.size (.mapIter (some (β1 m)) clock (seen.push e.born) clock)) (by simp)).1
  have hmp:Kn (rt kk) (rt vv) (okF X β' ρ' (B0.re (enc Γ s)).flat.mem [Y3 (β1 m) (.map es clock),Y3 w.heap.size (.mapIter (some (β1 m)) clock (seen.push e.born) clock)] W) W xs es.toList:=Jf.1 hDs.dat (Dd xs es.toList) (.head _)
  have hit2:a2.eval (.tmp it)=.pointer (some ⟨w.heap.size,0,none⟩):=by
   obtain ⟨cs,g1,g2⟩:=(hD.en (e:=⟨it,[],.p it []⟩) (by
    show _∈Jx (Jx ((enc Γ s).env++B0.fix) nx) mo
    rw [hadd on,hadd om]
    exact List.mem_append_right _ hsel)).1 (Qa _)
   have g2:cs=[.pointer (some ⟨β' it,0,none⟩)]:=g2
   subst g2
   rw [←hβ'i]
   exact Qdo g1 hblt
  have hr3:(execOp a2.eval ⟨some pr,.entry (.tmp it),ty4,p4,f4,none⟩).run P W=.ok (.value (.tuple #[e.key,e.val])) W:=by
   have:=run_entry_at (P:=P) W w.heap.size (β1 m) clock seen es clock e hhr2 hhm2 hel q3
   unfold execOp
   simp only [hit2]
   simp [this,Result.andThen]
  refine C1 rfl rfl hr3 ?_
  obtain ⟨v1,v2⟩:=Qdn hmp _ hzip
  obtain ⟨c1,g1,g2⟩:=isVal (β:=β') (ρ:=ρ') v1
  obtain ⟨c2,g3,g4⟩:=isVal (β:=β') (ρ:=ρ') v2
  have hP:=hD.put0 hr dp (x:=.tp (.cons (.d kk x.1) (.cons (.d vv x.2) .nil))) (c:=[.tuple #[e.key,e.val]]) ⟨[e.key,e.val],rfl,c1,[e.val],by rw [g1],g2,c2,[],by rw [g3],g4,rfl⟩
  obtain ⟨S3,hS3⟩:∃S3,S3=Q45 (B0.re (enc Γ s)) nx mo pr (.tp (.cons (.d kk x.1) (.cons (.d vv x.2) .nil))):=⟨_,rfl⟩
  have hP:Wf X β' ρ' S3.flat [Dd xs es.toList] [Y3 (β1 m) (.map es clock),Y3 w.heap.size (.mapIter (some (β1 m)) clock (seen.push e.born) clock)] (a2.put (some pr) (.tuple #[e.key,e.val])) W:=by
   have e2:S3.flat=⟨⟨pr,[],.tp (.cons (.d kk x.1) (.cons (.d vv x.2) .nil))⟩::Jx (Jx (Jx (B0.re (enc Γ s)).flat.env nx) mo) pr,(B0.re (enc Γ s)).flat.mem⟩:=by
    rw [hS3]
    simp only [XS.flat,Q45,XS.re]
    rw [hadd on,hadd om,hadd op]
    rfl
   rw [e2]; exact hP
  have hmem3:S3.flat.mem=(B0.re (enc Γ s)).flat.mem:=by rw [hS3]; rfl
  obtain ⟨X1,y1,y2,y3,y4,y5,y6⟩:=Qgs hK.2 hr hpin hP (by rw [hmem3]; exact hNMs s)
  have hfx:Ft f (x::Xz es.toList xs (seen.push e.born)) s=some z:=hfold _ hpm.symm
  have hbody:f x s=No nxt body B0 nx mo pr kk vv x s:=by rw [hf]
  cases hq:f x s with
  | none=>simp [Ft,hq] at hfx
  | some q =>
   rw [hq] at hbody
   unfold No at hbody
   rw [←hS3] at hbody
   have hBf:S3.fix=B0.fix∧S3.fixM=B0.fixM∧S3.prot=B0.prot:=by rw [hS3]; exact ⟨rfl,rfl,rfl⟩
   refine hb X1 β' ρ' _ W S3 _ q _ (y1.trans hX) y2 y3 ⟨hK.1,y4⟩ y5 hbody.symm fun ex β3 ρ3 S' a' w' hk1 hkp hrel=>?_
   have hk3:S'.fix=B0.fix∧S'.fixM=B0.fixM∧S'.prot=B0.prot:=⟨hkp.fix.trans hBf.1,hkp.fixM.trans hBf.2.1,hkp.prot.trans hBf.2.2⟩
   have hag3:agP (it::m::S1.prot) β' β3 ρ' ρ3:=by have:=hkp.ag; rw [hBf.2.2,hB0p] at this; exact this
   have again:∀s':Γ.De,S'.dec Γ=some s'→q=.inl s'→∃k,k<(leftOf es seen).size∧∃(s:Γ.De) (β':Nat→Nat) (ρ':Nat→Value) (seen:Array Nat) (c0:Nat),agP (it::m::S1.prot) β1 β' ρ0 ρ' ∧
     Wf X β' ρ' (B0.re (enc Γ s)).flat [Dd xs es.toList] [Y3 (β1 m) (.map es clock),Y3 w.heap.size (.mapIter (some (β1 m)) clock seen c0)] a' w'∧clock≤c0∧k=(leftOf es seen).size ∧
     ∀ys:List (kk.De×vv.De),ys.Perm (Xz es.toList xs seen)→Ft f ys s=some z:=by
    intro s' hs' hqs
    obtain ⟨β4,ρ4,hag4,z1⟩:=Gv (S0:=B0) hrel hk3 hs'
    rw [hB0p] at hag4
    refine ⟨(leftOf es (seen.push e.born)).size,Qdl he,s',β4,ρ4,seen.push e.born,clock,(hag.trans hag3).trans hag4,y6 _ _ _ _ _ z1,Nat.le_refl _,rfl,fun ys hys=>?_⟩
    have:=hfold (x::ys) ((hys.cons x).trans hpm.symm)
    simp only [Ft,hq,hqs] at this
    exact this
   have leave:∀(e2:Ex) (y:Bf exs),inj exs e2 S'=some y→q=.inr y→Q (Iw out e2).exit a' w':=by
    intro e2 y hy hqy
    have hzy:z=.inr y:=by
     simp only [Ft,hq,hqy] at hfx
     injection hfx with hfx; exact hfx.symm
    subst hzy
    obtain ⟨β4,ρ4,S9,w1',w2',w3'⟩:=D2 (S:=B0) [] [] hy hend ⟨hk3.1,hk3.2.1,hk3.2.2⟩ hrel
    rw [hB0p] at w2'
    have hF9:=y6 _ _ _ _ _ w3'
    have hagA:=(hag.trans hag3).trans w2'
    refine H (Iw out e2) β4 ρ4 _ a' w' w1' ⟨rfl,rfl,rfl,hags hagA⟩ (back β4 ρ4 _ _ _ _ _ (hagA m (.tail _ (.head _))).1 hF9 (fun e he=>?_) fun e he=>?_)
    ·exact List.mem_append_left _ (X9 (X9 he).1).1
    ·refine List.mem_append_right _ ?_
     show e∈B0.fix
     rw [hB0f]; exact .tail _ he
   cases ex with
   | n =>
    simp only [Iw] at hk1
    split at hk1
    ·rename_i s' hs'
     injection hk1 with hk1
     exact again s' hs' hk1.symm
    ·cases hk1
   | r =>
    simp only [Iw] at hk1
    split at hk1
    ·rename_i y hy
     injection hk1 with hk1
     exact leave .r y hy hk1.symm
    ·cases hk1
   | x i =>
    show Exit.inBlock nxt _ (.exit i) a' w'
    simp only [Exit.inBlock]
    cases hbi:Nat.beq i nxt with
    | true =>
     rw [if_pos (Nat.eq_of_beq_eq_true hbi)]
     simp only [Iw,hbi,cond_true] at hk1
     split at hk1
     ·rename_i s' hs'
      injection hk1 with hk1
      exact again s' hs' hk1.symm
     ·cases hk1
    | false =>
     rw [if_neg fun e=>by rw [e,Nat.beq_refl] at hbi; cases hbi]
     simp only [Iw,hbi,cond_false] at hk1
     split at hk1
     ·rename_i y hy
      injection hk1 with hk1
      have:=leave (.x i) y hy hk1.symm
      show Exit.inBlock out Q (.exit i) a' w'
      simp only [Exit.inBlock]
      simp only [Iw] at this
      cases hbo:Nat.beq i out with
      | true =>
       rw [hbo] at this
       rw [if_pos (Nat.eq_of_beq_eq_true hbo)]
       exact this
      | false =>
       rw [hbo] at this
       rw [if_neg fun e=>by rw [e,Nat.beq_refl] at hbo; cases hbo]
       exact this
     ·cases hk1
theorem Qlx {ops:List Oper} {o1 o2 o3:Oper} {mo t mt it nx pr:Nat} (h:Qf9 ops o1 o2 o3 mo=some (t,mt,it,nx,pr)) :
  (∃ty p f,ops.getLast?=some ⟨some it,.range t (.tmp mt),ty,p,f,none⟩)∧(∃ty p f,o1=⟨some nx,.next (.tmp it) false,ty,p,f,none⟩)∧(∃ty p f,o2=⟨some mo,.extract (.tmp nx) 0,ty,p,f,none⟩)∧∃ty p f,o3=⟨some pr,.entry (.tmp it),ty,p,f,none⟩:=by
 unfold Qf9 at h
 split at h
 ·rename_i hl
  obtain ⟨hb,h⟩:=bvT h
  simp only [Bool.and_eq_true] at hb
  obtain ⟨⟨⟨b1,b2⟩,b3⟩,b4⟩:=hb
  have b1:=Nat.eq_of_beq_eq_true b1
  have b2:=Nat.eq_of_beq_eq_true b2
  have b3:=Nat.eq_of_beq_eq_true b3
  have b4:=Nat.eq_of_beq_eq_true b4
  simp only [Option.some.injEq,Prod.mk.injEq] at h
  obtain ⟨rfl,rfl,rfl,rfl,rfl⟩:=h
  subst b1; subst b2; subst b3; subst b4
  exact ⟨⟨_,_,_,hl⟩,⟨_,_,_,rfl⟩,⟨_,_,_,rfl⟩,_,_,_,rfl⟩
 ·cases h
end
end Gx

/- Control. -/
namespace Gx
open Go Go.RowKit Gd
set_option linter.unusedVariables false
set_option linter.unusedSimpArgs false
section
variable {P:Program} {Y:TX} {X:Cx} {S:XS} {β β':Nat→Nat} {ρ ρ':Nat→Value} {a a':Act} {w w':World} {n N:Nat} {K:List Con}
variable {Q:Exit→Act→World→Prop} {R:Type} {r:R}
theorem U2 (hT:Qy P Y.T) (hmix:P.follows .mixedOrders=true):∀{X:Cx} (hK:KsX P Y X K) (hX:X.n=n) (hr:X.res=[]) (hpin:X.pin=none) {R:Type} {r:R} (an:An) {c:Code} {S:XS} {β:Nat→Nat} {ρ:Nat→Value} {a:Act} {w:World} {k:Ex→XS→Option R} {Q:Exit→Act→World→Prop},
  Rel X β ρ S.flat a w→Uj Y K n N an c S k=some r→COk Q X S β ρ k r→c.wp P Q a w
 | X,hK,hX,hr,hpin,R,r,.nil,c,S,β,ρ,a,w,k,Q,h,hs,H=>by
  cases c<;>simp only [Uj] at hs<;>first | (cases hs; done) | skip
  ·exact wp_skip (H .n β ρ S a w hs (Vo.refl _ _ _) h)
  ·rename_i id; exact wp_exit (H (.x id) β ρ S a w hs (Vo.refl _ _ _) h)
  ·exact wp_label (H .n β ρ S a w hs (Vo.refl _ _ _) h)
  ·exact wp_ret (H .r β ρ S a w hs (Vo.refl _ _ _) h)
 | X,hK,hX,hr,hpin,R,r,.reg hn,c,S,β,ρ,a,w,k,Q,h,hs,H=>by
  cases c with
  | region id ops draw =>
   obtain ⟨ops⟩:=ops
   cases draw with
   | true=>simp [Uj] at hs
   | false =>
    simp only [Uj] at hs
    refine wp_region_list ?_
    have:=Vg hT hK hX hr (Q:=Q) hn (l:=ops) (rest:=[]) h hs fun β' ρ' S' a' w' h1 h2 h3=>H .n β' ρ' S' a' w' h1 h2 h3
    simpa using this
  | _=>simp [Uj] at hs
 | X,hK,hX,hr,hpin,R,r,.dr m g1 g2,c,S,β,ρ,a,w,k,Q,h,hs,H=>by
  cases c with
  | region id ops draw =>
   obtain ⟨ops⟩:=ops
   cases draw with
   | false=>simp [Uj] at hs
   | true =>
    simp only [Uj] at hs
    obtain ⟨hb,hs⟩:=bvT hs
    have hm:P.follows .mixedOrders=true:=hmix
    unfold Qpg at hb
    have tail:∀(β':Nat→Nat) (ρ':Nat→Value) (S':XS) (a':Act),Y7 Y K n ops g2 (ops.drop m) S' (k .n)=some r→Vo S S' β β' ρ ρ'→Rel X β' ρ' S'.flat a' { w with drawn:=w.drawn+1 }→wpList P ⟨ops⟩ Q (ops.drop m) a' { w with drawn:=w.drawn+1 }:=by
     intro β' ρ' S' a' h1 h2 h3
     have:=Vg hT hK hX hr (Q:=Q) g2 (l:=ops.drop m) (rest:=[]) h3 h1 fun β2 ρ2 S2 a2 w2 q1 q2 q3=>H .n β2 ρ2 S2 a2 w2 q1 (h2.trans q2) q3
     simpa using this
    cases hlt:Nat.blt m ops.length with
    | true =>
     rw [hlt] at hb
     refine wp_region_still_tail m hm hb ?_
     have:=As hT hX hr (w:={ w with drawn:=w.drawn+1 }) (Qs:=fun a'=>wpList P ⟨ops⟩ Q (ops.drop m) a' { w with drawn:=w.drawn+1 }) g1 (l:=ops.take m) (rest:=[]) h.drew hs fun β' ρ' S' a' h1 h2 h3=>tail β' ρ' S' a' h1 h2 h3
     simpa using this
    | false =>
     rw [hlt] at hb
     simp only [cond_false,Bool.and_eq_true] at hb
     have hm2:=Nat.eq_of_beq_eq_true hb.1
     refine wp_region_still_lit hm hb.2 ?_
     have:=As hT hX hr (w:={ w with drawn:=w.drawn+1 }) (Qs:=fun a'=>wpList P ⟨ops⟩ Q (ops.drop m) a' { w with drawn:=w.drawn+1 }) g1 (l:=ops.take m) (rest:=[]) h.drew hs fun β' ρ' S' a' h1 h2 h3=>tail β' ρ' S' a' h1 h2 h3
     rw [hm2] at this
     simp only [List.take_length,List.append_nil,List.drop_length] at this
     exact this
  | _=>simp [Uj] at hs
 | X,hK,hX,hr,hpin,R,r,.dm p ds zs g2,c,S,β,ρ,a,w,k,Q,h,hs,H=>by
  cases c with
  | region id ops draw =>
   obtain ⟨ops⟩:=ops
   cases draw with
   | false=>simp [Uj] at hs
   | true =>
    simp only [Uj] at hs
    obtain ⟨hb,hs⟩:=bvT hs
    simp only [Bool.and_eq_true] at hb
    have hC:Rel X β ρ ⟨XS.flat { S with mem:=(Je S.mem zs).1 } |>.env,(Je S.mem zs).2++(XS.flat { S with mem:=(Je S.mem zs).1 }).mem⟩ a w:=by
     have hpm:(S.mem++S.fixM).Perm ((Je S.mem zs).2++((Je S.mem zs).1++S.fixM)):=by
      rw [←List.append_assoc]
      exact ((Ut zs S.mem).append_right S.fixM).symm
     exact Rel.permM (env:=S.flat.env) (m:=S.flat.mem) h hpm
    refine Qgl hT hK.1 hK.2 hmix hX hr hpin hb.1.2 hb.2 hC hb.1.1 hs fun β' ρ' a' w' acc h' h1 h2 h3=>?_
    have hk0:Vo S { S with mem:=(Je S.mem zs).1 } β β ρ ρ:=⟨rfl,rfl,rfl,agP.refl _ _ _⟩
    have:=Vg hT hK hX hr (Q:=Q) h' (l:=ops.drop p) (rest:=[]) h3 h1 fun β2 ρ2 S2 a2 w2 q1 q2 q3=>H .n β2 ρ2 S2 a2 w2 q1 ((hk0.trans h2).trans q2) q3
    simpa using this
  | _=>simp [Uj] at hs
 | X,hK,hX,hr,hpin,R,r,.dc p ds zs zf ht,c,S,β,ρ,a,w,k,Q,h,hs,H=>by
  cases c with
  | region id ops draw =>
   obtain ⟨ops⟩:=ops
   cases draw with
   | false=>simp [Uj] at hs
   | true =>
    simp only [Uj] at hs
    obtain ⟨hb,hs⟩:=bvT hs
    simp only [Bool.and_eq_true] at hb
    refine Qgr hT hmix hK hX hr hpin h hb.1 hb.2 hs fun β' ρ' S' a' w' h' h1 h2 h3=>?_
    have:=Vg hT hK hX hr (Q:=Q) h' (l:=ops.drop p) (rest:=[]) h3 h1 fun β2 ρ2 S2 a2 w2 q1 q2 q3=>H .n β2 ρ2 S2 a2 w2 q1 (h2.trans q2) q3
    simpa using this
  | _=>simp [Uj] at hs
 | X,hK,hX,hr,hpin,R,r,.ch t i x y,c,S,β,ρ,a,w,k,Q,h,hs,H=>by
  simp only [Uj] at hs
  cases hb:Qph S t i with
  | true=>rw [hb] at hs; exact U2 hT hmix hK hX hr hpin x h hs H
  | false=>rw [hb] at hs; exact U2 hT hmix hK hX hr hpin y h hs H
 | X,hK,hX,hr,hpin,R,r,.gh g x,c,S,β,ρ,a,w,k,Q,h,hs,H=>by
  simp only [Uj] at hs
  obtain ⟨S1,ρ1,q1,q2,q3⟩:=Ar g h hs
  exact U2 hT hmix hK hX hr hpin x q3 q1 (H.after q2)
 | X,hK,hX,hr,hpin,R,r,.two x y,c,S,β,ρ,a,w,k,Q,h,hs,H=>by
  cases c<;>simp only [Uj] at hs<;>first | (cases hs; done) | skip
  ·rename_i c1 c2
   refine wp_seq (U2 hT hmix hK hX hr hpin x h hs fun e β' ρ' S' a' w' h1 h2 h3=>?_)
   cases e with
   | n=>exact U2 hT hmix hK hX hr hpin y h3 h1 (H.after h2)
   | x i=>exact H (.x i) β' ρ' S' a' w' h1 h2 h3
   | r=>exact H .r β' ρ' S' a' w' h1 h2 h3
  ·rename_i co c1 c2
   split at hs
   ·rename_i v hv
    obtain ⟨cs,h1,h2⟩:=h.ev (Qa a) hv
    have h2':cs=_:=h2
    subst h2'
    have h1':a.eval co=.bool v:=h1
    refine wp_cond_split h1' (fun hv=>?_) (fun hv=>?_)
    ·rw [if_pos hv] at hs
     exact U2 hT hmix hK hX hr hpin x h hs H
    ·rw [if_neg (by rw [hv]; simp)] at hs
     exact U2 hT hmix hK hX hr hpin y h hs H
   ·cases hs
 | X,hK,hX,hr,hpin,R,r,.un x,c,S,β,ρ,a,w,k,Q,h,hs,H=>by
  cases c<;>simp only [Uj] at hs<;>first | (cases hs; done) | skip
  ·rename_i id c1
   refine wp_block (U2 hT hmix hK hX hr hpin x h hs fun e β' ρ' S' a' w' h1 h2 h3=>?_)
   cases e with
   | n=>exact H .n β' ρ' S' a' w' h1 h2 h3
   | x i =>
    simp only at h1
    show if i=id then Q .normal a' w' else Q (.exit i) a' w'
    cases hb:Nat.beq i id with
    | true =>
     rw [hb] at h1
     rw [if_pos (Nat.eq_of_beq_eq_true hb)]
     exact H .n β' ρ' S' a' w' h1 h2 h3
    | false =>
     rw [hb] at h1
     rw [if_neg (fun e=>by rw [e,Nat.beq_refl] at hb; cases hb)]
     exact H (.x i) β' ρ' S' a' w' h1 h2 h3
   | r=>exact H .r β' ρ' S' a' w' h1 h2 h3
  ·refine wp_scope_straight (U2 hT hmix hK hX hr hpin x h hs fun e β' ρ' S' a' w' h1 h2 h3=>?_)
   cases e with
   | n=>exact H .n β' ρ' S' a' w' h1 h2 h3
   | x i=>exact H (.x i) β' ρ' S' a' w' h1 h2 h3
   | r=>exact H .r β' ρ' S' a' w' h1 h2 h3
 | X,hK,hX,hr,hpin,R,r,.jn ks ms exs x,c,S,β,ρ,a,w,k,Q,h,hs,H=>by
  simp only [Uj] at hs
  obtain ⟨z,hz,ho⟩:=Yh hs
  refine U2 hT hmix hK hX hr hpin x (h.ent ks ms) hz fun e β' ρ' S' a' w' h1 h2 h3=>?_
  obtain ⟨β2,ρ2,S1,h4,h5,h6⟩:=D2 ks ms h1 ho ⟨h2.fix,h2.fixM,h2.prot⟩ h3
  refine H e β2 ρ2 _ a' w' h4 ⟨rfl,rfl,rfl,?_⟩ h6
  exact agP.trans h2.ag h5
 | X,hK,hX,hr,hpin,R,r,.mp g ks ms Γ exs g3 x,c,S,β,ρ,a,w,k,Q,h,hs,H=>by
  unfold Uj at hs
  split at hs<;>first | (simp only [reduceCtorEq] at *; done) | skip
  rename_i id2 ops out id1 o1 o2 mo out' nxt id0 o3 ops3 c1 heq
  cases heq
  split at hs
  ·rename_i t mt it nx pr hh
   obtain ⟨hout0,hs2⟩:=bvT hs
   clear hs
   have hout:=Nat.eq_of_beq_eq_true hout0
   subst hout
   obtain ⟨⟨ty1,p1,f1,hlast⟩,⟨ty2,p2,f2,rfl⟩,⟨ty3,p3,f3,rfl⟩,ty4,p4,f4,rfl⟩:=Qlx hh
   have hops:ops=ops.dropLast++[⟨some it,.range t (.tmp mt),ty1,p1,f1,none⟩]:=by
    obtain ⟨ys,hys⟩:=List.getLast?_eq_some_iff.1 hlast
    rw [hys,List.dropLast_concat]
   refine wp_seq (wp_region_list ?_)
   show wpList P ⟨ops⟩ _ ops a w
   refine Eq.mpr (congrArg (fun l=>wpList P ⟨ops⟩ _ l a w) hops) ?_
   exact Vg hT hK hX hr (ops:=ops) g (l:=ops.dropLast) (rest:=[⟨some it,.range t (.tmp mt),ty1,p1,f1,none⟩]) h hs2 fun β' ρ' S' a' w' h1 h2 h3=>by
    split at h1
    ·rename_i m tk hm htk
     split at h1
     ·rename_i kk vv xs hl
      exact Q9w hT hK hX hr hpin h3 hm htk hl h1 (H.after h2) fun X1 β ρ a w S3 k1 r1 Q1 e1 e2 e3 e4 e5 e6 e7=>by
       have:=Vg hT e4 e1 e2 (Q:=Exit.then (c1.wp P Q1) Q1) g3 (l:=ops3) (rest:=[]) e5 e6 fun β' ρ' S' a' w' g1 g2 g3=>U2 hT hmix e4 e1 e2 e3 x g3 g1 (e7.after g2)
       simpa using this
     ·cases h1
    ·cases h1
  ·cases hs
 | X,hK,hX,hr,hpin,R,r,.lp ks ms Γ exs x,c,S,β,ρ,a,w,k,Q,h,hs,H=>by
  cases c<;>simp only [Uj] at hs<;>first | (cases hs; done) | skip
  rename_i c1
  split at hs
  ·rename_i s0 hs0
   obtain ⟨z,hz,ho⟩:=Yh hs
   obtain ⟨β1,ρ1,h1,h2⟩:=Gv (S0:=S.ent ks ms) (h.ent ks ms) ⟨rfl,rfl,rfl⟩ hs0
   refine Aa (fun m a w=>∃s β' ρ',agP S.prot β β' ρ ρ'∧Rel X β' ρ' ((S.ent ks ms).re (enc Γ s)).flat a w∧Jg _ m s=some z) N ⟨s0,β1,ρ1,h1,h2,hz⟩ ?_
   rintro m a1 w1 ⟨s,β',ρ',h3,h4,h5⟩
   cases m with
   | zero=>simp [Jg] at h5
   | succ m =>
    simp only [Jg] at h5
    obtain ⟨q,hq,h5⟩:=Yh h5
    refine U2 hT hmix hK hX hr hpin x h4 hq fun e β2 ρ2 S' a' w' h6 h7 h8=>?_
    cases e with
    | n =>
     simp only at h6
     split at h6
     ·rename_i s' hd
      injection h6 with h6; subst h6
      obtain ⟨β3,ρ3,h9,h10⟩:=Gv (S0:=S.ent ks ms) h8 ⟨h7.fix,h7.fixM,h7.prot⟩ hd
      exact ⟨m,Nat.lt_succ_self m,s',β3,ρ3,(h3.trans h7.ag).trans h9,h10,h5⟩
     ·cases h6
    | x i =>
     simp only at h6
     split at h6
     ·rename_i s' hd
      injection h6 with h6; subst h6
      injection h5 with h5; subst h5
      obtain ⟨β3,ρ3,S1,h9,h10,h11⟩:=D2 ks ms hd ho ⟨h7.fix,h7.fixM,h7.prot⟩ h8
      exact H (.x i) β3 ρ3 _ a' w' h9 ⟨rfl,rfl,rfl,(h3.trans h7.ag).trans h10⟩ h11
     ·cases h6
    | r =>
     simp only at h6
     split at h6
     ·rename_i s' hd
      injection h6 with h6; subst h6
      injection h5 with h5; subst h5
      obtain ⟨β3,ρ3,S1,h9,h10,h11⟩:=D2 ks ms hd ho ⟨h7.fix,h7.fixM,h7.prot⟩ h8
      exact H .r β3 ρ3 _ a' w' h9 ⟨rfl,rfl,rfl,(h3.trans h7.ag).trans h10⟩ h11
     ·cases h6
  ·cases hs
theorem Qdq (p:Addr):(asAddr (.pointer (some p)):Sem Addr)=pure p:=rfl
theorem Qbf (hT:Qy P Y.T) (h:Rel X β ρ S.flat a w):∀{rs:List ResultVar} {i:Nat} {es:List En} (pre:List Value),pre.length=i→Qga Y S rs i=some es →
  ∃vs:List Value,vs.length=rs.length∧es.length=rs.length∧Sem.run P (rs.mapM fun r=>match r with | .tmp t=>(pure (a.tmps.getD t undef):Sem Value) | .cell ad t=>do loadVar t (←asAddr (a.tmps.getD ad undef))) w=.ok vs w ∧
   ∀e∈es,(enD β ρ ⟨(pre++vs).toArray,[]⟩ e).p (okR X β ρ S.flat.mem w) w
 | [],i,es,pre,_,he=>by simp [Qga] at he; subst he; exact ⟨[],rfl,rfl,rfl,by simp⟩
 | .tmp t::rs,i,es,pre,hi,he=>by
  simp only [Qga] at he
  split at he
  ·rename_i v r hv hr
   obtain ⟨hbi,he⟩:=bvT he
   simp at he; subst he
   obtain ⟨cs,h1,h2⟩:=h.ev (Qa a) hv
   obtain ⟨vs,h3,h4,h5,h6⟩:=Qbf hT h (rs:=rs) (i:=i+1) (pre++[a.tmps.getD t undef]) (by simp [hi]) hr
   refine ⟨a.tmps.getD t undef::vs,by simp [h3],by simp [h4],?_,fun e hm=>?_⟩
   ·rw [List.mapM_cons]
    simp only [pure_bind,Sem.run_bind,h5]
    rfl
   ·exact resCons hi hbi (h1▸rfl) h2 h6 e hm
  ·cases he
 | .cell ad t::rs,i,es,pre,hi,he=>by
  simp only [Qga] at he
  split at he
  ·rename_i v r hv hr
   obtain ⟨hbi,he⟩:=bvT he
   simp at he; subst he
   obtain ⟨cs,h1,h2⟩:=Io (P:=P) (o:=⟨none,.load t (.tmp ad),0, "",#[],none⟩) hT h.toW (Qa a) hv
   obtain ⟨vs,h3,h4,h5,h6⟩:=Qbf hT h (rs:=rs) (i:=i+1) (pre++[v.val cs]) (by simp [hi]) hr
   have hp:∃p,a.tmps.getD ad undef=.pointer (some p):=by
    simp only [Im] at hv
    split at hv
    ·rename_i id path he' hx
     obtain ⟨cs1,q1,q2⟩:=h.ev (Qa a) hx
     have q2':cs1=_:=q2
     subst q2'
     exact ⟨_,q1⟩
    ·rename_i t' y he' hx
     obtain ⟨cs1,q1,v0,q2,b,o,_,q3,_⟩:=h.ev (Qa a) hx
     subst q2; subst q3
     exact ⟨_,q1⟩
    ·cases hv
   obtain ⟨p,hp⟩:=hp
   have hl:(loadVar t p).run P w=.ok (v.val cs) w:=by
    have h1':=h1
    unfold execOp at h1'
    have hp':a.eval (.tmp ad)=.pointer (some p):=hp
    simp only [hp',Instr.loadAt,Instr.sureAddr,Sem.run_bind,Sem.run_pure,Result.andThen_ok] at h1'
    cases hr:(loadVar t p).run P w with
    | ok v1 w1 =>
     rw [hr] at h1'
     simp at h1'
     rw [h1'.1,h1'.2]
    | _=>rw [hr] at h1'; simp [Result.andThen] at h1'
   refine ⟨v.val cs::vs,by simp [h3],by simp [h4],?_,fun e hm=>?_⟩
   ·rw [List.mapM_cons]
    simp only [hp,Qdq,pure_bind,Sem.run_bind,hl,Result.andThen_ok,h5]
    rfl
   ·exact resCons hi hbi rfl h2 h6 e hm
  ·cases he
where
 resCons {i:Nat} {pre vs:List Value} {v0:Value} {v:AV} {cs:List Value} {r:List En} (hi:pre.length=i) (hbi:Nat.blt i 100000=true) (hv:v0=v.val cs) (h2:cr β ρ (okR X β ρ S.flat.mem w) w false v cs)
   (h6:∀e∈r,(enD β ρ ⟨(pre++[v0]++vs).toArray,[]⟩ e).p (okR X β ρ S.flat.mem w) w):∀e∈(⟨i,[],v⟩::r:List En),(enD β ρ ⟨(pre++v0::vs).toArray,[]⟩ e).p (okR X β ρ S.flat.mem w) w:=by
  intro e hm
  have hl:pre++[v0]++vs=pre++(v0::vs):=by simp
  rw [hl] at h6
  rcases List.mem_cons.1 hm with rfl | hm
  ·refine ⟨fun _=>⟨cs,?_,h2⟩,.inl (Qa _)⟩
   rw [Xh hbi]
   simp only [List.getElem?_toArray]
   rw [List.getElem?_append_right (by omega),←hi]
   simp only [Nat.sub_self,List.getElem?_cons_zero]
   exact congrArg some hv
  ·exact h6 e hm
theorem Ly:∀{l:List (Nat×Sk)} {i:Nat} {vs:List DV},H1 l i=true→∀(j:Nat) e,(Gs l vs).1[j]?=some e→e.t=i+j∧e.cs=[]
 | [],i,vs,_,j,e,h=>by simp [Gs] at h
 | (t,s)::l,i,vs,hk,j,e,h=>by
  simp only [H1,Bool.and_eq_true] at hk
  simp only [Gs] at h
  cases j with
  | zero =>
   simp at h; subst h
   exact ⟨Nat.eq_of_beq_eq_true hk.1,rfl⟩
  | succ j =>
   obtain ⟨h1,h2⟩:=Ly hk.2 j e (by simpa using h)
   exact ⟨by omega,h2⟩
theorem H9:∀{l:List (Nat×Sk)} {vs:List DV},(Gs l vs).1.length=l.length
 | [],vs=>rfl
 | (t,s)::l,vs=>by simp only [Gs,List.length_cons,H9]
theorem Qdr {gl:List (Nat×Σ t:Ty,t.De)} {ok ok':Ok} {w:World} {β:Nat→Nat} {ρ:Nat→Value} {a:Act} (h:Vf gl ok w) (hk:∀b o,ok b o→ok' b o):∀e∈Ix gl,(enD β ρ a e).p ok' w:=by
 intro e he
 obtain ⟨q,hq,rfl⟩:=List.mem_map.1 he
 refine ⟨fun _=>⟨[.pointer (some ⟨q.1,0,none⟩)],Qf0 a q.1,_,rfl,(h q hq).1.weak hk⟩,.inl (Qa a)⟩
theorem Qi2 {P:Program} {gl:List (Nat×Σ t:Ty,t.De)} {c:Con} (h:∀x,c.fn x=none):Qi P gl c:=fun ok w L β ρ x y vs _ _ _ _ _ hy=>by rw [h] at hy; cases hy
def S00 (Y:TX) (c:Con) (x:c.Γ.De):XS:=⟨(enc c.Γ x).env,Ix Y.gl,wrM c.ro (enc c.Γ x).mem,rdM c.ro (enc c.Γ x).mem,c.Γ.mem.map Prod.fst⟩
theorem Q4m {ro:List Nat}:∀(M:List (Nat×Ob)),M.Perm (wrM ro M++rdM ro M)
 | []=>.nil
 | q::l=>by
  have ih:=Q4m (ro:=ro) l
  unfold wrM rdM at *
  cases hm:J9 ro q.1 with
  | true =>
   simp only [List.filter_cons,hm,Bool.not_true,Bool.false_eq_true,if_false,if_true]
   exact (List.Perm.cons q ih).trans List.perm_middle.symm
  | false =>
   simp only [List.filter_cons,hm,Bool.not_false,Bool.false_eq_true,if_false,if_true]
   exact List.Perm.cons q ih
def Jbu (Y:TX) (fn:Func) (c:Con):Ex→XS→Option c.Δ.De:=fun e S=>match e with
 | .x _=>none
 | .n=>fin Y fn c.Δ S
 | .r=>fin Y fn c.Δ S
theorem Qi3 {fn:Func} {c:Con} (hku:H1 c.Γ.env 0=true) (hks:Nat.blt c.Γ.env.length 100000=true) {ok:Ok} {w:World} {L:List Nat} {β:Nat→Nat} {ρ:Nat→Value} {x:c.Γ.De} {vs:List Value} {a:Act} (hok:∀b o,ok b o→b<w.heap.size) (hG:Vf Y.gl ok w) (hL:Ma (Qc β ρ (enc c.Γ x).mem) L ok w)
  (hargs:∀e∈(enc c.Γ x).env,∃cs,vs[e.t]?=some (e.av.val cs)∧cr β ρ ok w false e.av cs) (h0:Sb (fun _=>0) (cxL L fn.ntmps ok w) (Qb0 vs 0) [] [] (Qc β ρ (enc c.Γ x).mem) a w):Rel (cxL L fn.ntmps ok w) β ρ (S00 Y c x).flat a w:=by
 have hp:=(Q4m (ro:=c.ro) (enc c.Γ x).mem).map fun q=>Qp β ρ q.1 q.2
 have hk0:∀b o,ok b o→okR (cxL L fn.ntmps ok w) β ρ (wrM c.ro (enc c.Γ x).mem++rdM c.ro (enc c.Γ x).mem) w b o:=fun b o hbo=>⟨.inl (.inl hbo),hok b o hbo,by simp,fun t ht hc=>(hL.1 t (hp.mem_iff.2 ht)).2.2 b o (t.cb hc) hbo⟩
 have hR:Rel (cxL L fn.ntmps ok w) β ρ (XS.flat (S00 Y c x)) a w:=by
  have e:XS.flat (S00 Y c x)=⟨(enc c.Γ x).env++Ix Y.gl,wrM c.ro (enc c.Γ x).mem++rdM c.ro (enc c.Γ x).mem⟩:=rfl
  rw [e]
  replace h0:=Sb.perm h0 hp
  refine Rel.ofSb h0 rfl fun e he=>?_
  rcases List.mem_append.1 he with he | he
  case inr=>exact Qdr hG hk0 e he
  obtain ⟨cs,h1,h2⟩:=hargs e he
  have hcs:e.cs=[]:=by
   unfold enc at he
   split at he
   rename_i es r hes
   exact Cw (Γe:=c.Γ.env) e (by rw [hes]; exact he)
  refine ⟨fun _=>⟨cs,?_,Vt h2 hk0⟩,.inl (by rw [hcs]; exact Qa a)⟩
  have hz:∀{us:List Value} {i j:Nat} {v:Value},us[j]?=some v→(i+j,Gd.AV.v v)∈Qb0 us i:=by
   intro us
   induction us with
   | nil=>intro i j v h; simp at h
   | cons u us ih =>
    intro i j v h
    cases j with
    | zero=>simp at h; subst h; exact .head _
    | succ j =>
     have:=ih (i:=i+1) (j:=j) (v:=v) (by simpa using h)
     rw [show i+(j+1)=i+1+j by omega]
     exact .tail _ this
  have hsm:Nat.blt e.t 100000=true:=by
   obtain ⟨j,hj⟩:=List.getElem?_of_mem he
   have hk2:e.t=0+j:=by
    unfold enc at hj
    split at hj
    rename_i es0 r0 hes0
    exact (Ly (vs:=toL c.Γ.tys x) hku j e (by rw [hes0]; exact hj)).1
   have hjl:j<c.Γ.env.length:=by
    have h4:=(List.getElem?_eq_some_iff.1 hj).1
    unfold enc at h4
    have h5:=H9 (l:=c.Γ.env) (vs:=toL c.Γ.tys x)
    split at h4
    rename_i es0 r0 hes0
    rw [hes0] at h5
    simp only at h4 h5
    omega
   have:=Nat.le_of_ble_eq_true hks
   rw [hk2]
   exact Nat.ble_eq_true_of_le (by omega)
  have:=h0.tm _ (hz (i:=0) h1)
  rw [Xh hsm]
  simpa [Vs] using this
 exact hR
theorem Qi4 (hT:Qy P Y.T) {fn:Func} {c:Con} {ok:Ok} {w:World} {L:List Nat} {β:Nat→Nat} {ρ:Nat→Value} {x:c.Γ.De} {y:c.Δ.De} {β':Nat→Nat} {ρ':Nat→Value} {S':XS} {a':Act} {w':World}
  (h2:Vo (S00 Y c x) S' β β' ρ ρ') (h3:Rel (cxL L fn.ntmps ok w) β' ρ' S'.flat a' w'):fin Y fn c.Δ S'=some y→bodyPost P fn (Qag L w (Qiu c β ρ ok L w x y)) .ret a' w':=by
 intro hfin
 unfold fin at hfin
 split at hfin
 ·rename_i es hes
  obtain ⟨hkb,hd⟩:=bvT hfin
  simp only [Bool.and_eq_true] at hkb
  have hksm:=Nat.le_of_ble_eq_true hkb.2
  replace hkb:=hkb.1
  have hel:=Nat.eq_of_beq_eq_true hkb.2
  obtain ⟨rv,r1,r2,r3,r4⟩:=Qbf hT h3 [] rfl hes
  simp only [List.nil_append] at r4
  have hRes:Rel { cxL L fn.ntmps ok w with n:=rv.length } β' ρ' (XS.flat ⟨es,[],S'.mem,S'.fixM,S'.prot⟩) ⟨rv.toArray,[]⟩ w':=by
   have e:XS.flat ⟨es,[],S'.mem,S'.fixM,S'.prot⟩=⟨es,S'.flat.mem⟩:=by simp [XS.flat]
   rw [e]
   have hSb:Sb (fun _=>0) { cxL L fn.ntmps ok w with n:=rv.length } [] [] [] (Qc β' ρ' S'.flat.mem) ⟨rv.toArray,[]⟩ w' :=
    { sz:=by simp,df:=rfl,fr:=by simp,pn:=by simp,tm:=by simp,bel:=h3.bel,dat:=trivial,obj:=by simp,own:=h3.own,dHH:=by simp,dHO:=by simp,dOO:=h3.dOO }
   exact Rel.ofSb hSb rfl fun e he=>r4 e he
  obtain ⟨β2,ρ2,h4,h5⟩:=XS.dec_ok hRes hd
  have hfm:S'.fixM=roM c x:=h2.fixM
  have hpr:S'.prot=c.Γ.mem.map Prod.fst:=h2.prot
  rw [hfm] at h5
  have hfacts:∀(j:Nat) e,(enc c.Δ y).env[j]?=some e→∃cs,rv[j]?=some (e.av.val cs)∧cr β2 ρ2 (Q5 (okL L ok) w.heap.size (fun _=>0) [] (Qc β2 ρ2 ((enc c.Δ y).mem++roM c x)) w') w' false e.av cs:=by
   intro j e he
   have hk2:e.t=0+j∧e.cs=[]:=by
    unfold enc at he
    split at he
    rename_i es0 r0 hes0
    exact Ly (vs:=toL c.Δ.tys y) hkb.1 j e (by rw [hes0]; exact he)
   have hen:=h5.en (List.mem_append_left _ (List.mem_of_getElem? he))
   obtain ⟨cs,q1,q2⟩:=hen.1 (by rw [hk2.2]; exact Qa _)
   rw [hk2.1,Nat.zero_add] at q1
   have hjl:j<c.Δ.env.length:=by
    have h4:=(List.getElem?_eq_some_iff.1 he).1
    unfold enc at h4
    have h5:=H9 (l:=c.Δ.env) (vs:=toL c.Δ.tys y)
    split at h4
    rename_i es0 r0 hes0
    rw [hes0] at h5
    simp only at h4 h5
    omega
   rw [Xh (Nat.ble_eq_true_of_le (by omega))] at q1
   exact ⟨cs,by simpa using q1,q2⟩
  have hlenE:(enc c.Δ y).env.length=rv.length:=by
   have:(enc c.Δ y).env.length=c.Δ.env.length:=by
    unfold enc
    have:=H9 (l:=c.Δ.env) (vs:=toL c.Δ.tys y)
    split
    rename_i es0 r0 hes0
    rw [hes0] at this
    exact this
   omega
  have hres:(results fn a'.tmps).run P w'=.ok (if h:rv.toArray.size=1 then rv.toArray[0] else .tuple rv.toArray) w':=by
   unfold results
   rw [Array.mapM_eq_mapM_toList]
   simp only [Sem.run_bind,Sem.run_map,bind_pure_comp]
   exact congrArg (fun z:Result (List Value)=>(z.andThen fun a w'=>Result.ok a.toArray w').andThen fun a w'=>Result.ok (if h:a.size=1 then a[0] else Value.tuple a) w') r3
  refine ⟨h3.df,_,hres,_,rfl,⟨β2,ρ2,?_,?_,?_,?_⟩,h3.bel⟩
  ·exact agP.trans h2.ag (by rw [←hpr]; exact h4)
  ·by_cases hl1:rv.length=1
   ·obtain ⟨e0,he0⟩:=List.length_eq_one_iff.1 (hlenE.trans hl1)
    obtain ⟨cs,q1,q2⟩:=hfacts 0 e0 (by rw [he0]; rfl)
    have hra:Es (enc c.Δ y).env=e0.av:=by rw [he0]; rfl
    rw [hra]
    refine ⟨cs,?_,q2⟩
    rw [dif_pos (by simpa using hl1)]
    have hlt:0<rv.length:=by omega
    rw [List.getElem?_eq_getElem hlt] at q1
    exact Option.some.inj q1
   ·have hra:Es (enc c.Δ y).env=.tp (S8 (enc c.Δ y).env):=by
     unfold Es
     split
     ·rename_i e0 he0
      exact absurd (by rw [←hlenE,he0]; rfl) hl1
     ·rfl
    rw [hra]
    refine ⟨[.tuple rv.toArray],?_,rv,rfl,?_⟩
    ·rw [dif_neg (by simpa using hl1)]; rfl
    ·exact Qc6 (i:=0) hfacts hlenE.symm
  ·exact fun t ht=>h5.own t ht
  ·exact h5.dOO
 ·cases hfin
theorem Qi5 (hT:Qy P Y.T) {f:FuncId} {fn:Func} (hf:P.funcs[f]?=some fn) {c:Con} (hcf:c.f=f) {code:Code} (hb:fn.body=some code) (hble:Nat.ble c.Γ.env.length fn.ntmps=true) (hku:H1 c.Γ.env 0=true) (hks:Nat.blt c.Γ.env.length 100000=true)
  (hway:∀(x:c.Γ.De) (y:c.Δ.De) (X:Cx) (β:Nat→Nat) (ρ:Nat→Value) (a:Act) (w:World) (Q:Exit→Act→World→Prop),c.fn x=some y→Vf Y.gl (okN X) X.w→X.n=fn.ntmps→X.res=[]→X.pin=none→Rel X β ρ (S00 Y c x).flat a w→COk Q X (S00 Y c x) β ρ (Jbu Y fn c) y→code.wp P Q a w):Qi P Y.gl c:=by
 intro ok w L β ρ x y vs hok hG hlen hL hargs hy
 rw [hcf]
 refine Qki (n:=fn.ntmps) (L:=L) (O:=Qc β ρ (enc c.Γ x).mem) (D:=[]) hok hf hb rfl (by rw [hlen]; exact hble) trivial hL fun a h0=>?_
 have hR:=Qi3 (Y:=Y) (fn:=fn) hku hks hok hG hL hargs h0
 refine hway x y _ β ρ a w _ hy (hG.weak fun b o hbo=>⟨.inl hbo,fun hbl=>hL.2.2 b hbl |>.elim fun t ht=>(hL.1 t ht.1).2.2 b o ht.2 hbo,hok b o hbo⟩) rfl rfl rfl hR fun e β' ρ' S' a' w' h1 h2 h3=>?_
 have key:=Qi4 (y:=y) hT h2 h3
 cases e with
 | n=>exact key h1
 | x i=>cases h1
 | r=>exact key h1
theorem Qf (hT:Qy P Y.T) (hmix:P.follows .mixedOrders=true) (hK:Qgm P Y.gl K) {f:FuncId} {fn:Func} (hf:P.funcs[f]?=some fn) {an:An} {c:Con} (hcf:c.f=f) (hrun:∀x,c.fn x=Qtx Y K N fn an c.ro c.Γ c.Δ x):Qi P Y.gl c:=by
 cases hb:fn.body with
 | none =>
  refine Qi2 fun x=>?_
  rw [hrun]
  unfold Qtx
  rw [hb]
 | some code =>
  by_cases hc:(Nat.ble c.Γ.env.length fn.ntmps&&(H1 c.Γ.env 0&&Nat.blt c.Γ.env.length 100000))=true
  ·have hc':=hc
   simp only [Bool.and_eq_true] at hc'
   refine Qi5 hT hf hcf hb hc'.1 hc'.2.1 hc'.2.2 fun x y X β ρ a w Q hy hG hX hr hp hR H=>?_
   rw [hrun] at hy
   unfold Qtx at hy
   rw [hb,hc] at hy
   exact U2 hT hmix ⟨hK,hG⟩ hX hr hp an hR hy H
  ·refine Qi2 fun x=>?_
   rw [hrun]
   unfold Qtx
   rw [hb]
   simp only
   rw [show (Nat.ble c.Γ.env.length fn.ntmps&&(H1 c.Γ.env 0&&Nat.blt c.Γ.env.length 100000))=false from Bool.eq_false_iff.2 hc]
   rfl
end
end Gx
namespace Gx
open Go
theorem Qt {P:Program} {gl:List (Nat×Σ t:Ty,t.De)}:Qgm P gl []:=fun _ h=>by cases h
theorem Qd {P:Program} {c:Con} {gl:List (Nat×Σ t:Ty,t.De)} {K:List Con} (h:Qi P gl c) (hr:Gd.Runs P c.f) (hk:Qgm P gl K):Qgm P gl (c::K):=fun d hd=>by
 rcases List.mem_cons.1 hd with rfl | hd
 ·exact ⟨h,hr⟩
 ·exact hk d hd
end Gx
