/- A region of open order by ordinary steps: sound. -/
import Derived.Test.YtbhpbpilmejnlaaGreatXR4
import Derived.Scope
import Derived.RangeFuncRecord
import Derived.TacticsIn
import Derived.RangeFuncOwn
import Derived.RangeFuncIn
namespace Gx
open Go Go.RowKit Gd
set_option linter.unusedVariables false
set_option linter.unusedSimpArgs false
theorem allBs_mem:∀{hs:List HD} {i:Nat},(∃hc∈hs,i∈hc.bs)→i∈allBs hs
  | [],i,⟨_,h,_⟩=>by cases h
  | h::l,i,⟨hc,hm,hi⟩=>by
    rcases List.mem_cons.1 hm with rfl | hm
    · exact List.mem_append_left _ hi
    · exact List.mem_append_right _ (allBs_mem ⟨hc,hm,hi⟩)
theorem cfl_at {l0:List Oper} {hs:List HD} (h:cflB l0 hs=true) {i j:Nat} {hi hj:HD} (h1:hs[i]?=some hi) (h2:hs[j]?=some hj) (hji:j<i):settled l0 i j hi hj=true:=by
  have hil:=(List.getElem?_eq_some_iff.1 h1).1
  have:=List.all_eq_true.1 (List.all_eq_true.1 h i (List.mem_range.2 hil)) j (List.mem_range.2 hji)
  rw [h1,h2] at this
  exact this
theorem nm_at {l0:List Oper} {hs:List HD} (h:nmB l0 hs=true) {i j:Nat} {hi hj:HD} (h1:hs[i]?=some hi) (h2:hs[j]?=some hj) (hji:i≠j):apart hi.bs hj.nm=true∨behindB l0 l0.length j i=true:=by
  have hil:=(List.getElem?_eq_some_iff.1 h1).1
  have hjl:=(List.getElem?_eq_some_iff.1 h2).1
  have:=List.all_eq_true.1 (List.all_eq_true.1 h i (List.mem_range.2 hil)) j (List.mem_range.2 hjl)
  rw [h1,h2] at this
  simp only [beqN hji,Bool.false_or,Bool.or_eq_true] at this
  exact this
theorem idsM_left {m:List (Nat×Ob)} {i:Nat}:∀{l:List (Nat×Ob)},i∈idsM l→i∈idsM (l++m)
  | [],h=>by cases h
  | (k,x)::l,h=>by
    have key:∀{xs:List Nat},i∈xs++idsM l→i∈xs++idsM (l++m):=fun {xs} h=>by
      rcases List.mem_append.1 h with h | h
      · exact List.mem_append_left _ h
      · exact List.mem_append_right _ (idsM_left h)
    cases x with
    | var t c=>have:=key (xs:=k::allIds c) (by simpa [idsM] using h); simpa [idsM] using this
    | mapT a b p e u xs hole =>
      cases hole with
      | none=>have:=key (xs:=[k]) (by simpa [idsM] using h); simpa [idsM] using this
      | some q=>have:=key (xs:=[k,q.2]) (by simpa [idsM] using h); simpa [idsM] using this
    | mapO k9 xs9 hole =>
      cases hole with
      | none=>have:=key (xs:=[k]) (by simpa [idsM,lastI] using h); simpa [idsM,lastI] using this
      | some q=>have:=key (xs:=[k,q.2]) (by simpa [idsM,lastI] using h); simpa [idsM,lastI] using this
    | _=>have:=key (xs:=[k]) (by simpa [idsM] using h); simpa [idsM] using this
theorem idsM_right {m:List (Nat×Ob)} {i:Nat} (h:i∈idsM m):∀{l:List (Nat×Ob)},i∈idsM (l++m)
  | []=>h
  | (k,x)::l=>by
    have ih:=idsM_right h (l:=l)
    cases x with
    | var t c=>simp only [List.cons_append,idsM]; exact .tail _ (List.mem_append_right _ ih)
    | mapT a b p e u xs hole =>
      cases hole with
      | none=>simp only [List.cons_append,idsM]; exact .tail _ ih
      | some q=>simp only [List.cons_append,idsM]; exact .tail _ (.tail _ ih)
    | mapO k9 xs9 hole =>
      cases hole with
      | none=>simp only [List.cons_append,List.nil_append,idsM,lastI]; exact .tail _ ih
      | some q=>simp only [List.cons_append,List.nil_append,idsM,lastI]; exact .tail _ (.tail _ ih)
    | _=>simp only [List.cons_append,idsM]; exact .tail _ ih
theorem envC_congr {E E':Nat→Bool}:∀{acc:List EC} {j:Nat},(∀k,k<acc.length→E (j+k)=E' (j+k))→envC E acc j=envC E' acc j
  | [],_,_=>rfl
  | g::l,j,h=>by
    have h0:=h 0 (by simp)
    rw [Nat.add_zero] at h0
    have ih:envC E l (j+1)=envC E' l (j+1):=envC_congr fun k hk=>by
      have:=h (k+1) (by simp only [List.length_cons]; omega)
      rwa [show j+(k+1)=j+1+k by omega] at this
    simp only [envC,h0,ih]
theorem envC_none:∀{acc:List EC} {j:Nat},envC (fun _=>false) acc j=[]
  | [],_=>rfl
  | g::l,j=>by simp only [envC,Bool.false_and,cond_false]; exact envC_none
theorem objC_none {Zs:List (Nat×Ob)} {bs:List Nat} {acc:List EC} (hN:(keysM Zs++bs).Nodup):objC (keysM Zs++bs) Zs acc (fun _=>false)=Zs:=by
  unfold objC
  have h0:∀id c,curC (fun _=>false) id acc 0 c=c:=fun id c=>curC_late fun _ _ _ _=>rfl
  obtain ⟨n1,n2,n3⟩:=List.nodup_append.1 hN
  rw [List.filterMap_append]
  have e2:(bs.filterMap fun id=>optP id (curC (fun _=>false) id acc 0 (lookM Zs id)))=[]:=by
    rw [List.filterMap_eq_nil_iff]
    intro d hd
    rw [h0]
    cases hl:lookM Zs d with
    | none=>rfl
    | some ob=>exact absurd rfl (n3 d (isSomeN_key (by rw [hl]; rfl)) d hd)
  rw [e2,List.append_nil]
  unfold keysM
  rw [List.filterMap_map]
  refine (filterMap_same (f:=some) fun q hq=>?_).trans List.filterMap_some
  simp only [Function.comp,h0,look_nodup n1 q hq,optP]
section
variable {P:Program} {Y:TX} {X:Cx} {K:List Con} {n:Nat} {l0:List Oper} {ds:List Nat} {Zs Mb:List (Nat×Ob)} {B:List En} {prA prB:List Nat} {R:Type} {r:R} {β:Nat→Nat} {ρ:Nat→Value} {a:Act} {w:World}
theorem openRegion (hT:TabOk P Y.T) (hmix:P.follows .mixedOrders=true) (hK:KsX P Y X K) (hX:X.n=n) (hr:X.res=[]) (hp:X.pin=none) {ht:HT} {p:Nat} (h:Rel X β ρ ⟨B,Zs++Mb⟩ a w)
    (hBt:∀e∈B,∀d∈ds,d<n→e.t≠d∧∀c∈e.cs,c.1≠d) (hBi:∀e∈B,∀i∈allIds e.av,i∈prB) (hMi:∀i∈idsM (Zs++Mb),i∈prB)
    (hb:drawB l0 p ds=true) {k:Hn→List HD→List EC→Option R} (hs:runC Y K n l0 ds Zs B prA ht (l0.take p) 0 [] [] k=some r)
    (hch:∀h hs0 acc,k h hs0 acc=some r→chkC l0 (keysM Zs) prB prA hs0=true) (hpA:∀i∈prB,i∈prA) {id:Nat} {Q:Exit→Act→World→Prop}
    (H:∀β' ρ' a' w' h hs0 acc,k h hs0 acc=some r→(∀(x:Nat),(∀hc∈hs0,x∉hc.wr)→∀g∈acc,touchC x g=false)→(∀x∈allBs hs0,x∈allBsT ht)→agP prB β β' ρ ρ'→Rel X β' ρ' ⟨envC allE acc 0++B,objC (keysM Zs++allBs hs0) Zs acc allE++Mb⟩ a' w'→wpList P ⟨l0⟩ Q (l0.drop p) a' w'):(Code.region id ⟨l0⟩ true).wp P Q a w:=by
  unfold drawB at hb
  simp only [Bool.and_eq_true] at hb
  obtain ⟨⟨⟨⟨hple,hlen⟩,hback⟩,hfin⟩,hndB⟩:=hb
  have hnd:=nodupB_ok hndB
  have hpl:=Nat.le_of_ble_eq_true hple
  have hdl:=Nat.eq_of_beq_eq_true hlen
  obtain ⟨hn,hs0,acc,hk,htr,hbT⟩:=runC_tr hs
  simp only [List.nil_append] at hk
  have hchk:=hch _ _ _ hk
  unfold chkC at hchk
  simp only [Bool.and_eq_true] at hchk
  obtain ⟨⟨⟨⟨⟨hcf,hnm⟩,hNb⟩,hapB⟩,hNAb⟩,hall0⟩:=hchk
  have hN:=nodupN_ok hNb
  have hNA:∀i∈keysM Zs++allBs hs0,i∈prA:=fun i hi=>allMem_ok hNAb i hi
  have hprB:∀i∈prB,i∈prA∧i∉allBs hs0:=fun i hi=>⟨hpA i hi,fun h2=>apart_ok hapB hi h2⟩
  have hal0:∀hc∈hs0,nodupN hc.al=true∧allMem (keysM Zs++allBs hs0) hc.al=true∧allMem prA hc.nm=true:=fun hc hm=>by
    have:=List.all_eq_true.1 hall0 hc hm
    simp only [Bool.and_eq_true] at this
    exact ⟨this.1.1,this.1.2,this.2⟩
  have hNm:∀hc∈hs0,∀i∈hc.nm,i∈prA:=fun hc hm i hi=>allMem_ok (hal0 hc hm).2.2 i hi
  have hal:∀hc∈hs0,(hc.tch++hc.ro++hc.bs).Nodup∧∀i∈hc.tch++hc.ro++hc.bs,i∈keysM Zs++allBs hs0:=fun hc hm=>⟨nodupN_ok (hal0 hc hm).1,fun i hi=>allMem_ok (hal0 hc hm).2.1 i hi⟩
  obtain ⟨hal1,hal2,hall⟩:=htr.get
  have hap:acc.length=p:=by rw [hal1,List.length_take]; omega
  simp only [List.nil_append,Nat.zero_add] at hall
  have hget:∀(i:Nat) o,i<p→l0[i]?=some o→∃g hc S1,acc[i]?=some g∧hs0[i]?=some hc∧runH (R:=XS) Y K n l0 hc.h [o] (seenC l0 ds Zs B prA hc o i (acc.take i)) some=some S1∧stepDC n ds Zs hc o i (acc.take i) S1=some g:=fun i o hi ho=>hall i o (by rw [List.getElem?_take,if_pos hi]; exact ho)
  have hof:∀(j:Nat) g,acc[j]?=some g→j<p∧∃o hc S1,l0[j]?=some o∧hs0[j]?=some hc∧stepDC n ds Zs hc o j (acc.take j) S1=some g:=fun j g hg=>by
    have hj:j<p:=by have:=(List.getElem?_eq_some_iff.1 hg).1; omega
    obtain ⟨g',hc,S1,q1,q2,_,q4⟩:=hget j l0[j] hj (List.getElem?_eq_getElem (by omega))
    rw [hg] at q1; injection q1 with q1; subst q1
    exact ⟨hj,_,hc,S1,List.getElem?_eq_getElem (by omega),q2,q4⟩
  have htch:∀(j:Nat) g hc x,acc[j]?=some g→hs0[j]?=some hc→touchC x g=true→x∈hc.wr:=fun j g hc x hg hh ht=>by
    obtain ⟨_,o,hc',S1,_,q2,q3⟩:=hof j g hg
    rw [hh] at q2; injection q2 with q2; subst q2
    unfold touchC at ht
    rw [(stepDC_ok q3).2.2.1,lookU_map] at ht
    by_cases hm:x∈hc.tch++hc.bs
    · exact hm
    · rw [if_neg hm] at ht; simp [isSomeN] at ht
  have hdsj:∀(j:Nat) g,acc[j]?=some g→ds[j]?=some g.d:=fun j g hg=>by
    obtain ⟨hj,o,hc,S1,_,_,q3⟩:=hof j g hg
    exact some_getD (by omega) (stepDC_ok q3).2.2.2.1
  have hno:∀(x:Nat),(∀hc∈hs0,x∉hc.wr)→∀g∈acc,touchC x g=false:=fun x hx g hg=>by
    obtain ⟨j,hj⟩:=List.getElem?_of_mem hg
    obtain ⟨hjp,o,hc,S1,p1,p2,p3⟩:=hof j g hj
    cases ht:touchC x g with
    | false=>rfl
    | true=>exact absurd (htch j g hc x hj p2 ht) (hx hc (List.mem_of_getElem? p2))
  refine draw_rule0 (fun E a w=>∃β' ρ',agP prB β β' ρ ρ'∧Rel X β' ρ' ⟨envC E acc 0++B,objC (keysM Zs++allBs hs0) Zs acc E++Mb⟩ a w) hmix p (fun E E' a w hE ⟨β',ρ',q1,q2⟩=>⟨β',ρ',q1,?_⟩) hple hback hfin ⟨β,ρ,agP.refl _ _ _,?_⟩ (fun E i o a w Q' hip ho hcl hEi hpre ⟨β1,ρ1,hag,hR⟩ hQ=>?_) fun a' w' ⟨β',ρ',q1,q2⟩=>H β' ρ' a' w' hn hs0 acc hk hno hbT q1 q2
  · have e1:envC E acc 0=envC E' acc 0:=envC_congr fun k hk=>by rw [Nat.zero_add]; exact hE k (by omega)
    have e2:objC (keysM Zs++allBs hs0) Zs acc E=objC (keysM Zs++allBs hs0) Zs acc E':=filterMap_same fun id _=>by
      rw [curC_congr (E:=E) (E':=E') fun k e hk _=>by rw [Nat.zero_add]; exact hE k (by have:=(List.getElem?_eq_some_iff.1 hk).1; omega)]
    rw [e1,e2] at q2
    exact q2
  · rw [envC_none,objC_none hN]
    exact Sb.below h ((Below.refl _ _).drew)
  · obtain ⟨g,hc,S1,hg,hhc,hrun,hst⟩:=hget i o hip ho
    obtain ⟨t1,t2,t3,t4,t5,t6,t7,t8⟩:=stepDC_ok hst
    obtain ⟨al1,al2⟩:=hal hc (List.mem_of_getElem? hhc)
    have hlateB:∀j,behindB l0 l0.length j i=true→E j=false:=fun j hbj=>by
      cases hE:E j with
      | false=>rfl
      | true =>
        have:E i=true:=behind_ok hcl l0.length j i hbj fun o' ho' e he hb'=>hcl j o' hE ho' e he hb'
        rw [hEi] at this; cases this
    have hearB:∀j,behindB l0 l0.length i j=true→E j=true:=fun j hbj=>behind_ok hcl l0.length i j hbj fun o' ho' e he hb'=>by rw [ho] at ho'; injection ho' with ho'; subst ho'; exact hpre e he hb'
    have hlate:∀id∈hc.tch++hc.ro++hc.bs,∀(j:Nat) g',acc[j]?=some g'→i<j→touchC id g'=true→E j=false:=fun id hm j g' hj hij ht=>by
      obtain ⟨hjp,oj,hcj,S1j,p1,p2,p3⟩:=hof j g' hj
      have hw:=htch j g' hcj id hj p2 ht
      have hse:=cfl_at hcf p2 hhc hij
      unfold settled at hse
      simp only [Bool.and_eq_true,Bool.or_eq_true] at hse
      rcases hse.1 with ⟨s1,s2⟩ | s1
      · exfalso
        rcases List.mem_append.1 hm with hm | hm
        · rcases List.mem_append.1 hm with hm | hm
          · exact apart_ok s1 (List.mem_append_left _ hm:id∈hc.wr) (by
              rcases List.mem_append.1 hw with q | q
              · exact List.mem_append_left _ (List.mem_append_left _ q)
              · exact List.mem_append_right _ q)
          · exact apart_ok s2 hm hw
        · exact apart_ok s1 (List.mem_append_right _ hm:id∈hc.wr) (by
              rcases List.mem_append.1 hw with q | q
              · exact List.mem_append_left _ (List.mem_append_left _ q)
              · exact List.mem_append_right _ q)
      · exact hlateB j s1
    have hearly:∀id∈hc.tch++hc.ro,∀(j:Nat) g',acc[j]?=some g'→j<i→touchC id g'=true→E j=true:=fun id hm j g' hj hij ht=>by
      obtain ⟨hjp,oj,hcj,S1j,p1,p2,p3⟩:=hof j g' hj
      have hw:=htch j g' hcj id hj p2 ht
      have hse:=cfl_at hcf hhc p2 hij
      unfold settled at hse
      simp only [Bool.and_eq_true,Bool.or_eq_true] at hse
      rcases hse.1 with ⟨s1,s2⟩ | s1
      · exact (apart_ok s1 hw (List.mem_append_left _ hm)).elim
      · exact hearB j s1
    have hbsA:∀id∈hc.bs,id∈allBs hs0:=fun id hm=>allBs_mem ⟨hc,List.mem_of_getElem? hhc,hm⟩
    have hbs:∀id∈hc.bs,curC E id acc 0 (lookM Zs id)=none:=fun id hm=>by
      have hz:lookM Zs id=none:=by
        cases hl:lookM Zs id with
        | none=>rfl
        | some ob=>exact absurd rfl ((List.nodup_append.1 hN).2.2 id (isSomeN_key (by rw [hl]; rfl)) id (hbsA id hm))
      rw [hz]
      refine curC_late fun j g' hj ht=>?_
      rw [Nat.zero_add]
      rcases Nat.lt_trichotomy j i with hji | hji | hji
      · obtain ⟨hjp,oj,hcj,S1j,p1,p2,p3⟩:=hof j g' hj
        have hse:=cfl_at hcf hhc p2 hji
        unfold settled at hse
        simp only [Bool.and_eq_true] at hse
        exact (apart_ok hse.2 hm (htch j g' hcj id hj p2 ht)).elim
      · rw [hji]; exact hEi
      · exact hlate id (List.mem_append_right _ hm) j g' hj hji ht
    have hprs:∀x∈prB,x∈withoutN prA hc.bs:=fun x hx=>by
      obtain ⟨q1,q2⟩:=hprB x hx
      refine List.mem_filter.2 ⟨q1,?_⟩
      cases hm:memN hc.bs x with
      | false=>rfl
      | true=>exact absurd (hbsA x (memN_ok' hm)) q2
    have hnmj:∀(j:Nat) g',acc[j]?=some g'→E j=true→∀hcj,hs0[j]?=some hcj→∀x∈hcj.nm,x∈withoutN prA hc.bs:=fun j g' hj hE hcj p2 x hx=>by
      refine List.mem_filter.2 ⟨hNm hcj (List.mem_of_getElem? p2) x hx,?_⟩
      cases hm:memN hc.bs x with
      | false=>rfl
      | true =>
        have hij:i≠j:=fun e=>by subst e; rw [hEi] at hE; cases hE
        rcases nm_at hnm hhc p2 hij with q | q
        · exact (apart_ok q (memN_ok' hm) hx).elim
        · rw [hlateB j q] at hE; cases hE
    refine openStep hK.2 hr hp (S1:=S1) (tch:=hc.tch) (ro:=hc.ro) (bs:=hc.bs) (pr:=withoutN prA hc.bs) (Ve:=visE l0 ds i (acc.take i) B (opTmps o++gTs l0 o)) hR hg hEi hN al1 al2 hearly hlate hbs (fun e he=>?_) t3 t7 (fun d hd=>(t6 d hd).1) t1 (fun e he=>?_) (fun x hx=>?_) (fun X1 Q1 x1 x2 x3 x4 x5 x6=>?_) fun β' ρ' a' w' y1 y2=>hQ a' w' ⟨β',ρ',agP.trans hag fun x hx=>y1 x (hprs x hx),y2⟩
    · rcases visE_mem he with ⟨v1,v2,v3⟩ | v1
      · obtain ⟨g',m1,m2,m3,m4⟩:=lookC_mem v2
        obtain ⟨j,hj⟩:=List.getElem?_of_mem m1
        rw [List.getElem?_take] at hj
        split at hj
        · rename_i hji
          have hd':=hdsj j g' hj
          have hix:ds.idxOf e.t=j:=by
            have hjl:=(List.getElem?_eq_some_iff.1 hd').1
            have:=hnd.idxOf_getElem j hjl
            rw [(List.getElem?_eq_some_iff.1 hd').2,m2] at this
            exact this
          rw [hix] at v3
          have hEj:E j=true:=by
            simp only [predB,ho] at v3
            obtain ⟨e',he',hb'⟩:=List.any_eq_true.1 v3
            simp only [Bool.and_eq_true] at hb'
            rw [←Nat.eq_of_beq_eq_true hb'.2]
            exact hpre e' he' hb'.1
          refine List.mem_append_left _ ?_
          have:=envC_of (E:=E) (acc:=acc) (j:=0) (k:=j) hj (by rw [Nat.zero_add]; exact hEj) m3
          obtain ⟨et,ecs,eav⟩:=e
          simp only at v1 m2 m4
          subst v1; subst m2; subst m4
          exact this
        · cases hj
      · exact List.mem_append_right _ v1
    · rcases List.mem_append.1 he with he | he
      · obtain ⟨j,g',q1,q2,q3,rfl⟩:=envC_mem he
        rw [Nat.zero_add] at q2
        obtain ⟨hjp,oj,hcj,S1j,p1,p2,p3⟩:=hof j g' q1
        refine ⟨fun x hx=>hnmj j g' q1 q2 hcj p2 x (allMem_ok (stepDC_ok p3).2.2.2.2.1 x hx),fun d hd=>⟨fun e=>?_,by simp⟩⟩
        have e1:=(t6 d hd).1
        have d1:=hdsj j g' q1
        have d2:=hdsj i g hg
        have hij:j=i:=by
          obtain ⟨b1,c1⟩:=List.getElem?_eq_some_iff.1 d1
          obtain ⟨b2,c2⟩:=List.getElem?_eq_some_iff.1 d2
          have a1:=hnd.idxOf_getElem j b1
          have a2:=hnd.idxOf_getElem i b2
          rw [show ds[j]=ds[i] from c1.trans (e.trans (e1.trans c2.symm))] at a1
          exact a1.symm.trans a2
        rw [hij,hEi] at q2; cases q2
      · refine ⟨fun x hx=>hprs x (hBi e he x hx),fun d hd=>?_⟩
        obtain ⟨e1,e2⟩:=t6 d hd
        exact hBt e he d (by rw [e1]; exact List.mem_of_getElem? (hdsj i g hg)) e2
    · rcases idsM_append hx with hx | hx
      · obtain ⟨id,h1,ob,h2,h3⟩:=idsM_sel hx
        rcases curC_src h2 with h6 | ⟨j,g',q1,q2,q3⟩
        · exact hprs x (hMi x (idsM_left (idsM_look h6 h3)))
        · rw [Nat.zero_add] at q2
          obtain ⟨hjp,oj,hcj,S1j,p1,p2,p3⟩:=hof j g' q1
          refine hnmj j g' q1 q2 hcj p2 x (allMem_ok (stepDC_ok p3).2.1 x ?_)
          rw [(stepDC_ok p3).2.2.1,lookU_map] at q3
          split at q3
          · exact idsM_look (Option.some.inj q3) h3
          · cases q3
      · exact hprs x (hMi x (idsM_right hx))
    · have hflat:(seenC l0 ds Zs B prA hc o i (acc.take i)).flat=⟨visE l0 ds i (acc.take i) B (opTmps o++gTs l0 o),objsC hc.tch Zs (acc.take i)++objsC hc.ro Zs (acc.take i)⟩:=by
        simp only [XS.flat,seenC,List.append_nil]
      have:=runH_ok hT (X:=X1) ⟨hK.1,x4⟩ (x1.trans hX) x2 (Q:=Q1) hc.h (l:=[o]) (rest:=[]) (S:=seenC l0 ds Zs B prA hc o i (acc.take i)) (a:=a) (w:=w) (by rw [hflat]; exact x5) hrun fun β' ρ' S' a' w' k1 k2 k3=>by
        simp only [Option.some.injEq] at k1
        subst k1
        have kf:S'.fix=[]:=k2.fix
        have km:S'.fixM=objsC hc.ro Zs (acc.take i):=k2.fixM
        refine x6 β' ρ' a' w' k2.ag ?_
        have e:S'.flat=⟨S'.env,S'.mem++objsC hc.ro Zs (acc.take i)⟩:=by simp only [XS.flat,kf,km,List.append_nil]
        rw [e] at k3
        exact k3
      simpa using this
end
end Gx

/- A region of open order by ordinary steps, as the interpreter walks it. -/
namespace Gx
open Go Go.RowKit Gd
set_option linter.unusedVariables false
set_option linter.unusedSimpArgs false
theorem datE_mem {M:List (Nat×Ob)}:∀{B:List En} {e:En},e∈datE M B→∃e0∈B,e=⟨e0.t,e0.cs,datA M e0.av⟩
  | [],e,h=>by cases h
  | e0::l,e,h=>by
    simp only [datE] at h
    cases hb:anyTail M (idsOf e0.av) with
    | true =>
      rw [hb] at h
      rcases List.mem_cons.1 h with rfl | h
      · exact ⟨e0,.head _,rfl⟩
      · obtain ⟨e1,h1,h2⟩:=datE_mem h
        exact ⟨e1,.tail _ h1,h2⟩
    | false =>
      rw [hb] at h
      obtain ⟨e1,h1,h2⟩:=datE_mem h
      exact ⟨e1,.tail _ h1,h2⟩
theorem perm4 {α:Type} (a b c d:List α):((a++b)++(c++d)).Perm ((a++c)++(b++d)):=by
  rw [List.append_assoc,List.append_assoc]
  refine List.Perm.append_left a ?_
  rw [←List.append_assoc,←List.append_assoc]
  exact List.perm_append_comm.append_right d
theorem curC_none {E:Nat→Bool} {id:Nat}:∀{l:List EC} {j:Nat} {c:Option Ob},(∀g∈l,touchC id g=false)→curC E id l j c=c
  | [],j,c,_=>rfl
  | g::l,j,c,h=>by
    simp only [curC]
    rw [upC_no (h g (.head _))]
    rw [show (bif E j then c else c)=c by cases E j<;>rfl]
    exact curC_none fun g' hg=>h g' (.tail _ hg)
theorem objC_append {l m:List Nat} {Zs:List (Nat×Ob)} {acc:List EC} {E:Nat→Bool}:objC (l++m) Zs acc E=objC l Zs acc E++objC m Zs acc E:=List.filterMap_append
theorem keysM_append {l m:List (Nat×Ob)}:keysM (l++m)=keysM l++keysM m:=List.map_append
section
variable {P:Program} {Y:TX} {X:Cx} {K:List Con} {n:Nat} {l0:List Oper} {ds:List Nat} {R:Type} {r:R} {β:Nat→Nat} {ρ:Nat→Value} {a:Act} {w:World}
theorem datE_ok {B:List En} {M Z:List (Nat×Ob)} (h:Rel X β ρ ⟨B,M++Z⟩ a w):Rel X β ρ ⟨datE M B++B,M++Z⟩ a w:=by
  refine Rel.ofSb h rfl fun e he=>?_
  rcases List.mem_append.1 he with he | he
  · obtain ⟨e0,h0,rfl⟩:=datE_mem he
    obtain ⟨h1,h2⟩:=h.en h0
    refine ⟨fun hc=>?_,h2⟩
    obtain ⟨cs,q1,q2⟩:=h1 hc
    exact ⟨cs,by rw [q1,datA_val],datA_ok (fun id o ho=>h.mm id o (lookM_append ho)) q2⟩
  · exact h.en he
theorem regionC_ok (hT:TabOk P Y.T) (hmix:P.follows .mixedOrders=true) (hK:KsX P Y X K) (hX:X.n=n) (hr:X.res=[]) (hp:X.pin=none) {S:XS} (h:Rel X β ρ S.flat a w) {p:Nat} {zs zf:List Nat} {ht:HT}
    (hb:drawB l0 p ds=true) (hfx:(ds.all fun d=>offF d S.fix)=true) {k:Hn→XS→Option R}
    (hs:dcI Y K n l0 p ds (splitM S.mem zs).2 (splitM S.fixM zf).2 (splitM S.mem zs).1 (splitM S.fixM zf).1 ht S (remEs S.env (ds++allBsT ht)++S.fix) k=some r) {id:Nat} {Q:Exit→Act→World→Prop}
    (H:∀(β':Nat→Nat) (ρ':Nat→Value) (S':XS) (a':Act) (w':World) (h':Hn),k h' S'=some r→Keeps S S' β β' ρ ρ'→Rel X β' ρ' S'.flat a' w'→wpList P ⟨l0⟩ Q (l0.drop p) a' w'):(Code.region id ⟨l0⟩ true).wp P Q a w:=by
  have hm:=splitM_perm zs S.mem
  have hf:=splitM_perm zf S.fixM
  revert hs hm hf
  generalize (splitM S.mem zs).2=Z1
  generalize (splitM S.mem zs).1=M1
  generalize (splitM S.fixM zf).2=Z2
  generalize (splitM S.fixM zf).1=F1
  intro hs hm hf
  unfold dcI dcR at hs
  have hpm:S.flat.mem.Perm ((Z1++Z2)++(M1++F1)):=(hm.symm.append hf.symm).trans (perm4 Z1 M1 Z2 F1)
  have hBm:∀e∈remEs S.env (ds++allBsT ht)++S.fix,e∈S.flat.env∧∀d∈ds,e.t≠d∧∀c∈e.cs,c.1≠d:=fun e he=>by
    rcases List.mem_append.1 he with he | he
    · obtain ⟨q1,q2⟩:=remEs_mem he
      exact ⟨List.mem_append_left _ q1,fun d hd=>(q2 d (List.mem_append_left _ hd)).2⟩
    · exact ⟨List.mem_append_right _ he,fun d hd=>offF_rem (List.all_eq_true.1 hfx d hd) e he⟩
  have h1:Rel X β ρ ⟨remEs S.env (ds++allBsT ht)++S.fix,(M1++F1)++(Z1++Z2)⟩ a w:=Rel.permM (Rel.less h fun e he=>(hBm e he).1) (hpm.trans List.perm_append_comm)
  have h2:=Rel.permM (datE_ok h1) (List.perm_append_comm (l₁:=M1++F1) (l₂:=Z1++Z2))
  refine openRegion hT hmix hK hX hr hp (prB:=idsE (remEs S.env (ds++allBsT ht)++S.fix)++idsM ((Z1++Z2)++(M1++F1))++S.prot) (Mb:=M1++F1) h2 (fun e he d hd _=>?_) (fun e he i hi=>?_) (fun i hi=>List.mem_append_left _ (List.mem_append_right _ hi)) hb hs
    (fun hh hs0 acc hk=>?_) (fun i hi=>List.mem_append_left _ (List.mem_append_left _ hi)) fun β' ρ' a' w' hh hs0 acc hk hno hbT hag hR=>?_
  · rcases List.mem_append.1 he with he | he
    · obtain ⟨e0,q1,rfl⟩:=datE_mem he
      exact (hBm e0 q1).2 d hd
    · exact (hBm e he).2 d hd
  · refine List.mem_append_left _ (List.mem_append_left _ ?_)
    rcases List.mem_append.1 he with he | he
    · obtain ⟨e0,q1,rfl⟩:=datE_mem he
      exact idsE_mem q1 (datA_ids hi)
    · exact idsE_mem he hi
  · have:=(bvT hk).1
    simp only [Bool.and_eq_true] at this
    exact this.1
  · obtain ⟨hck,hk⟩:=bvT hk
    simp only [Bool.and_eq_true] at hck
    obtain ⟨hck,hkf⟩:=hck
    have hnd:(keysM (Z1++Z2)).Nodup:=by
      unfold chkC at hck
      simp only [Bool.and_eq_true] at hck
      exact (List.nodup_append.1 (nodupN_ok hck.1.1.1.2)).1
    refine H β' ρ' _ a' w' hh hk ⟨rfl,rfl,rfl,fun i hi=>hag i (List.mem_append_right _ hi)⟩ ?_
    have e2:objC (keysM Z2) (Z1++Z2) acc allE=Z2:=by
      unfold objC keysM
      rw [List.filterMap_map]
      refine (filterMap_same (f:=some) fun q hq=>?_).trans List.filterMap_some
      have hq2:q.1∈keysM Z2:=List.mem_map.2 ⟨q,hq,rfl⟩
      have hl:=look_nodup hnd q (List.mem_append_right _ hq)
      simp only [Function.comp,hl]
      rw [curC_none fun g hg=>hno q.1 (fun hc hm2 hw=>apart_ok (List.all_eq_true.1 hkf hc hm2) hw hq2) g hg]
      rfl
    have e1:objC (keysM (Z1++Z2)++allBs hs0) (Z1++Z2) acc allE=(objC (keysM Z1) (Z1++Z2) acc allE++Z2)++objC (allBs hs0) (Z1++Z2) acc allE:=by
      rw [objC_append,keysM_append,objC_append,e2]
    have e3:objC (keysM Z1++allBs hs0) (Z1++Z2) acc allE=objC (keysM Z1) (Z1++Z2) acc allE++objC (allBs hs0) (Z1++Z2) acc allE:=objC_append
    rw [e1] at hR
    have hperm:(((objC (keysM Z1) (Z1++Z2) acc allE++Z2)++objC (allBs hs0) (Z1++Z2) acc allE)++(M1++F1)).Perm ((objC (keysM Z1++allBs hs0) (Z1++Z2) acc allE++M1)++S.fixM):=by
      rw [e3]
      have p1:((objC (keysM Z1) (Z1++Z2) acc allE++Z2)++objC (allBs hs0) (Z1++Z2) acc allE).Perm ((objC (keysM Z1) (Z1++Z2) acc allE++objC (allBs hs0) (Z1++Z2) acc allE)++Z2):=by
        rw [List.append_assoc,List.append_assoc]
        exact List.Perm.append_left _ List.perm_append_comm
      exact ((p1.append_right _).trans (perm4 _ _ _ _)).trans (List.Perm.append_left _ hf)
    refine Rel.less (Rel.permM hR hperm) fun e he=>?_
    rcases List.mem_append.1 he with he | he
    · rcases List.mem_append.1 he with he | he
      · exact List.mem_append_left _ he
      · exact List.mem_append_right _ (List.mem_append_right _ (List.mem_append_left _ he))
    · exact List.mem_append_right _ (List.mem_append_right _ (List.mem_append_right _ he))
end
end Gx

/- Control. -/
namespace Gx
open Go Go.RowKit Gd
set_option linter.unusedVariables false
set_option linter.unusedSimpArgs false
section
variable {P:Program} {Y:TX} {X:Cx} {S:XS} {β β':Nat→Nat} {ρ ρ':Nat→Value} {a a':Act} {w w':World} {n N:Nat} {K:List Con}
variable {Q:Exit→Act→World→Prop} {R:Type} {r:R}
def Ex.exit:Ex→Exit
  | .n=>.normal
  | .x i=>.exit i
  | .r=>.ret
theorem Ex.beq_ok {a b:Ex} (h:Ex.beq a b=true):a=b:=by
  cases a<;>cases b<;>simp [Ex.beq] at h<;>first | rfl | (rw [h])
def COk (Q:Exit→Act→World→Prop) (X:Cx) (S0:XS) (β:Nat→Nat) (ρ:Nat→Value) {R:Type} (k:Ex→XS→Option R) (r:R):Prop :=
  ∀(e:Ex) (β':Nat→Nat) (ρ':Nat→Value) (S':XS) (a':Act) (w':World),k e S'=some r→Keeps S0 S' β β' ρ ρ'→Rel X β' ρ' S'.flat a' w'→Q e.exit a' w'
theorem COk.after {k:Ex→XS→Option R} (h:COk Q X S β ρ k r) {S1:XS} {β1:Nat→Nat} {ρ1:Nat→Value} (hk:Keeps S S1 β β1 ρ ρ1):COk Q X S1 β1 ρ1 k r :=
  fun e β' ρ' S' a' w' h1 h2 h3=>h e β' ρ' S' a' w' h1 (hk.trans h2) h3
theorem inj_ok {k:Ex→XS→Option R} (ks ms:List Nat):∀{l:Exs} {e:Ex} {S':XS} {x:SumT l},inj l e S'=some x→outS S ks ms k l x=some r →
    S'.fix=(S.ent ks ms).fix∧S'.fixM=(S.ent ks ms).fixM∧S'.prot=(S.ent ks ms).prot→Rel X β ρ S'.flat a w →
    ∃β' ρ' S1,k e (S.out ks ms S1)=some r∧agP S.prot β β' ρ ρ'∧Rel X β' ρ' (S.out ks ms S1).flat a w
  | [q],e,S',x,hi,ho,hk,h=>by
    simp only [inj] at hi
    obtain ⟨hb,hd⟩:=bvT hi
    have:=Ex.beq_ok hb
    subst this
    obtain ⟨β',ρ',h1,h2⟩:=dec_re (S0:=S.ent ks ms) h hk hd
    rw [←out_flat] at h2
    exact ⟨β',ρ',enc q.2 x,ho,h1,h2⟩
  | q::q2::l,e,S',x,hi,ho,hk,h=>by
    simp only [inj] at hi
    cases hb:Ex.beq q.1 e with
    | true =>
      rw [hb] at hi
      have:=Ex.beq_ok hb
      subst this
      simp only [cond_true] at hi
      split at hi
      · rename_i y hd
        injection hi with hi; subst hi
        obtain ⟨β',ρ',h1,h2⟩:=dec_re (S0:=S.ent ks ms) h hk hd
        rw [←out_flat] at h2
        exact ⟨β',ρ',enc q.2 y,ho,h1,h2⟩
      · cases hi
    | false =>
      rw [hb] at hi
      simp only [cond_false] at hi
      split at hi
      · rename_i y hd
        injection hi with hi; subst hi
        exact inj_ok ks ms hd ho hk h
      · cases hi
theorem runI_ok (hT:TabOk P Y.T) (hmix:P.follows .mixedOrders=true) (hK:KsX P Y X K) (hX:X.n=n) (hr:X.res=[]) (hpin:X.pin=none):∀{R:Type} {r:R} (an:An) {c:Code} {S:XS} {β:Nat→Nat} {ρ:Nat→Value} {a:Act} {w:World} {k:Ex→XS→Option R} {Q:Exit→Act→World→Prop},
    Rel X β ρ S.flat a w→runI Y K n N an c S k=some r→COk Q X S β ρ k r→c.wp P Q a w
  | R,r,.nil,c,S,β,ρ,a,w,k,Q,h,hs,H=>by
    cases c<;>simp only [runI] at hs<;>first | (cases hs; done) | skip
    · exact wp_skip (H .n β ρ S a w hs (Keeps.refl _ _ _) h)
    · rename_i id; exact wp_exit (H (.x id) β ρ S a w hs (Keeps.refl _ _ _) h)
    · exact wp_label (H .n β ρ S a w hs (Keeps.refl _ _ _) h)
    · exact wp_ret (H .r β ρ S a w hs (Keeps.refl _ _ _) h)
  | R,r,.reg hn,c,S,β,ρ,a,w,k,Q,h,hs,H=>by
    cases c with
    | region id ops draw =>
      obtain ⟨ops⟩:=ops
      cases draw with
      | true=>simp [runI] at hs
      | false =>
        simp only [runI] at hs
        refine wp_region_list ?_
        have:=runH_ok hT hK hX hr (Q:=Q) hn (l:=ops) (rest:=[]) h hs fun β' ρ' S' a' w' h1 h2 h3=>H .n β' ρ' S' a' w' h1 h2 h3
        simpa using this
    | _=>simp [runI] at hs
  | R,r,.dr m g1 g2,c,S,β,ρ,a,w,k,Q,h,hs,H=>by
    cases c with
    | region id ops draw =>
      obtain ⟨ops⟩:=ops
      cases draw with
      | false=>simp [runI] at hs
      | true =>
        simp only [runI] at hs
        obtain ⟨hb,hs⟩:=bvT hs
        have hm:P.follows .mixedOrders=true:=hmix
        unfold orderB at hb
        have tail:∀(β':Nat→Nat) (ρ':Nat→Value) (S':XS) (a':Act),runH Y K n ops g2 (ops.drop m) S' (k .n)=some r→Keeps S S' β β' ρ ρ'→Rel X β' ρ' S'.flat a' { w with drawn:=w.drawn+1 }→wpList P ⟨ops⟩ Q (ops.drop m) a' { w with drawn:=w.drawn+1 }:=by
          intro β' ρ' S' a' h1 h2 h3
          have:=runH_ok hT hK hX hr (Q:=Q) g2 (l:=ops.drop m) (rest:=[]) h3 h1 fun β2 ρ2 S2 a2 w2 q1 q2 q3=>H .n β2 ρ2 S2 a2 w2 q1 (h2.trans q2) q3
          simpa using this
        cases hlt:Nat.blt m ops.length with
        | true =>
          rw [hlt] at hb
          refine wp_region_still_tail m hm hb ?_
          have:=runT_ok hT hX hr (w:={ w with drawn:=w.drawn+1 }) (Qs:=fun a'=>wpList P ⟨ops⟩ Q (ops.drop m) a' { w with drawn:=w.drawn+1 }) g1 (l:=ops.take m) (rest:=[]) h.drew hs fun β' ρ' S' a' h1 h2 h3=>tail β' ρ' S' a' h1 h2 h3
          simpa using this
        | false =>
          rw [hlt] at hb
          simp only [cond_false,Bool.and_eq_true] at hb
          have hm2:=Nat.eq_of_beq_eq_true hb.1
          refine wp_region_still_lit hm hb.2 ?_
          have:=runT_ok hT hX hr (w:={ w with drawn:=w.drawn+1 }) (Qs:=fun a'=>wpList P ⟨ops⟩ Q (ops.drop m) a' { w with drawn:=w.drawn+1 }) g1 (l:=ops.take m) (rest:=[]) h.drew hs fun β' ρ' S' a' h1 h2 h3=>tail β' ρ' S' a' h1 h2 h3
          rw [hm2] at this
          simp only [List.take_length,List.append_nil,List.drop_length] at this
          exact this
    | _=>simp [runI] at hs
  | R,r,.dm p ds zs g2,c,S,β,ρ,a,w,k,Q,h,hs,H=>by
    cases c with
    | region id ops draw =>
      obtain ⟨ops⟩:=ops
      cases draw with
      | false=>simp [runI] at hs
      | true =>
        simp only [runI] at hs
        obtain ⟨hb,hs⟩:=bvT hs
        simp only [Bool.and_eq_true] at hb
        have hC:Rel X β ρ ⟨XS.flat { S with mem:=(splitM S.mem zs).1 } |>.env,(splitM S.mem zs).2++(XS.flat { S with mem:=(splitM S.mem zs).1 }).mem⟩ a w:=by
          have hpm:(S.mem++S.fixM).Perm ((splitM S.mem zs).2++((splitM S.mem zs).1++S.fixM)):=by
            rw [←List.append_assoc]
            exact ((splitM_perm zs S.mem).append_right S.fixM).symm
          exact Rel.permM (env:=S.flat.env) (m:=S.flat.mem) h hpm
        refine regionD_ok hT hK.1 hK.2 hmix hX hr hpin hb.1.2 hb.2 hC hb.1.1 hs fun β' ρ' a' w' acc h' h1 h2 h3=>?_
        have hk0:Keeps S { S with mem:=(splitM S.mem zs).1 } β β ρ ρ:=⟨rfl,rfl,rfl,agP.refl _ _ _⟩
        have:=runH_ok hT hK hX hr (Q:=Q) h' (l:=ops.drop p) (rest:=[]) h3 h1 fun β2 ρ2 S2 a2 w2 q1 q2 q3=>H .n β2 ρ2 S2 a2 w2 q1 ((hk0.trans h2).trans q2) q3
        simpa using this
    | _=>simp [runI] at hs
  | R,r,.dc p ds zs zf ht,c,S,β,ρ,a,w,k,Q,h,hs,H=>by
    cases c with
    | region id ops draw =>
      obtain ⟨ops⟩:=ops
      cases draw with
      | false=>simp [runI] at hs
      | true =>
        simp only [runI] at hs
        obtain ⟨hb,hs⟩:=bvT hs
        simp only [Bool.and_eq_true] at hb
        refine regionC_ok hT hmix hK hX hr hpin h hb.1 hb.2 hs fun β' ρ' S' a' w' h' h1 h2 h3=>?_
        have:=runH_ok hT hK hX hr (Q:=Q) h' (l:=ops.drop p) (rest:=[]) h3 h1 fun β2 ρ2 S2 a2 w2 q1 q2 q3=>H .n β2 ρ2 S2 a2 w2 q1 (h2.trans q2) q3
        simpa using this
    | _=>simp [runI] at hs
  | R,r,.ch t i x y,c,S,β,ρ,a,w,k,Q,h,hs,H=>by
    simp only [runI] at hs
    cases hb:isLitE S t i with
    | true=>rw [hb] at hs; exact runI_ok hT hmix hK hX hr hpin x h hs H
    | false=>rw [hb] at hs; exact runI_ok hT hmix hK hX hr hpin y h hs H
  | R,r,.gh g x,c,S,β,ρ,a,w,k,Q,h,hs,H=>by
    simp only [runI] at hs
    obtain ⟨S1,ρ1,q1,q2,q3⟩:=runG_ok g h hs
    exact runI_ok hT hmix hK hX hr hpin x q3 q1 (H.after q2)
  | R,r,.two x y,c,S,β,ρ,a,w,k,Q,h,hs,H=>by
    cases c<;>simp only [runI] at hs<;>first | (cases hs; done) | skip
    · rename_i c1 c2
      refine wp_seq (runI_ok hT hmix hK hX hr hpin x h hs fun e β' ρ' S' a' w' h1 h2 h3=>?_)
      cases e with
      | n=>exact runI_ok hT hmix hK hX hr hpin y h3 h1 (H.after h2)
      | x i=>exact H (.x i) β' ρ' S' a' w' h1 h2 h3
      | r=>exact H .r β' ρ' S' a' w' h1 h2 h3
    · rename_i co c1 c2
      split at hs
      · rename_i v hv
        obtain ⟨cs,h1,h2⟩:=h.ev (holdsC_nil a) hv
        have h2':cs=_:=h2
        subst h2'
        have h1':a.eval co=.bool v:=h1
        refine wp_cond_split h1' (fun hv=>?_) (fun hv=>?_)
        · rw [if_pos hv] at hs
          exact runI_ok hT hmix hK hX hr hpin x h hs H
        · rw [if_neg (by rw [hv]; simp)] at hs
          exact runI_ok hT hmix hK hX hr hpin y h hs H
      · cases hs
  | R,r,.un x,c,S,β,ρ,a,w,k,Q,h,hs,H=>by
    cases c<;>simp only [runI] at hs<;>first | (cases hs; done) | skip
    · rename_i id c1
      refine wp_block (runI_ok hT hmix hK hX hr hpin x h hs fun e β' ρ' S' a' w' h1 h2 h3=>?_)
      cases e with
      | n=>exact H .n β' ρ' S' a' w' h1 h2 h3
      | x i =>
        simp only at h1
        show if i=id then Q .normal a' w' else Q (.exit i) a' w'
        cases hb:Nat.beq i id with
        | true =>
          rw [hb] at h1
          rw [if_pos (Nat.eq_of_beq_eq_true hb)]
          exact H .n β' ρ' S' a' w' h1 h2 h3
        | false =>
          rw [hb] at h1
          rw [if_neg (fun e=>by rw [e,Nat.beq_refl] at hb; cases hb)]
          exact H (.x i) β' ρ' S' a' w' h1 h2 h3
      | r=>exact H .r β' ρ' S' a' w' h1 h2 h3
    · refine wp_scope_straight (runI_ok hT hmix hK hX hr hpin x h hs fun e β' ρ' S' a' w' h1 h2 h3=>?_)
      cases e with
      | n=>exact H .n β' ρ' S' a' w' h1 h2 h3
      | x i=>exact H (.x i) β' ρ' S' a' w' h1 h2 h3
      | r=>exact H .r β' ρ' S' a' w' h1 h2 h3
  | R,r,.jn ks ms exs x,c,S,β,ρ,a,w,k,Q,h,hs,H=>by
    simp only [runI] at hs
    obtain ⟨z,hz,ho⟩:=bindE hs
    refine runI_ok hT hmix hK hX hr hpin x (h.ent ks ms) hz fun e β' ρ' S' a' w' h1 h2 h3=>?_
    obtain ⟨β2,ρ2,S1,h4,h5,h6⟩:=inj_ok ks ms h1 ho ⟨h2.fix,h2.fixM,h2.prot⟩ h3
    refine H e β2 ρ2 _ a' w' h4 ⟨rfl,rfl,rfl,?_⟩ h6
    exact agP.trans h2.ag h5
  | R,r,.lp ks ms Γ exs x,c,S,β,ρ,a,w,k,Q,h,hs,H=>by
    cases c<;>simp only [runI] at hs<;>first | (cases hs; done) | skip
    rename_i c1
    split at hs
    · rename_i s0 hs0
      obtain ⟨z,hz,ho⟩:=bindE hs
      obtain ⟨β1,ρ1,h1,h2⟩:=dec_re (S0:=S.ent ks ms) (h.ent ks ms) ⟨rfl,rfl,rfl⟩ hs0
      refine wp_loop_fuel (fun m a w=>∃s β' ρ',agP S.prot β β' ρ ρ'∧Rel X β' ρ' ((S.ent ks ms).re (enc Γ s)).flat a w∧loopN _ m s=some z) N ⟨s0,β1,ρ1,h1,h2,hz⟩ ?_
      rintro m a1 w1 ⟨s,β',ρ',h3,h4,h5⟩
      cases m with
      | zero=>simp [loopN] at h5
      | succ m =>
        simp only [loopN] at h5
        obtain ⟨q,hq,h5⟩:=bindE h5
        refine runI_ok hT hmix hK hX hr hpin x h4 hq fun e β2 ρ2 S' a' w' h6 h7 h8=>?_
        cases e with
        | n =>
          simp only at h6
          split at h6
          · rename_i s' hd
            injection h6 with h6; subst h6
            obtain ⟨β3,ρ3,h9,h10⟩:=dec_re (S0:=S.ent ks ms) h8 ⟨h7.fix,h7.fixM,h7.prot⟩ hd
            exact ⟨m,Nat.lt_succ_self m,s',β3,ρ3,(h3.trans h7.ag).trans h9,h10,h5⟩
          · cases h6
        | x i =>
          simp only at h6
          split at h6
          · rename_i s' hd
            injection h6 with h6; subst h6
            injection h5 with h5; subst h5
            obtain ⟨β3,ρ3,S1,h9,h10,h11⟩:=inj_ok ks ms hd ho ⟨h7.fix,h7.fixM,h7.prot⟩ h8
            exact H (.x i) β3 ρ3 _ a' w' h9 ⟨rfl,rfl,rfl,(h3.trans h7.ag).trans h10⟩ h11
          · cases h6
        | r =>
          simp only at h6
          split at h6
          · rename_i s' hd
            injection h6 with h6; subst h6
            injection h5 with h5; subst h5
            obtain ⟨β3,ρ3,S1,h9,h10,h11⟩:=inj_ok ks ms hd ho ⟨h7.fix,h7.fixM,h7.prot⟩ h8
            exact H .r β3 ρ3 _ a' w' h9 ⟨rfl,rfl,rfl,(h3.trans h7.ag).trans h10⟩ h11
          · cases h6
    · cases hs
theorem asAddr_some (p:Addr):(asAddr (.pointer (some p)):Sem Addr)=pure p:=rfl
theorem resE_ok (hT:TabOk P Y.T) (h:Rel X β ρ S.flat a w):∀{rs:List ResultVar} {i:Nat} {es:List En} (pre:List Value),pre.length=i→resE Y S rs i=some es →
    ∃vs:List Value,vs.length=rs.length∧es.length=rs.length∧Sem.run P (rs.mapM fun r=>match r with | .tmp t=>(pure (a.tmps.getD t undef):Sem Value) | .cell ad t=>do loadVar t (←asAddr (a.tmps.getD ad undef))) w=.ok vs w ∧
      ∀e∈es,(enD β ρ ⟨(pre++vs).toArray,[]⟩ e).p (okR X β ρ S.flat.mem w) w
  | [],i,es,pre,_,he=>by simp [resE] at he; subst he; exact ⟨[],rfl,rfl,rfl,by simp⟩
  | .tmp t::rs,i,es,pre,hi,he=>by
    simp only [resE] at he
    split at he
    · rename_i v r hv hr
      obtain ⟨hbi,he⟩:=bvT he
      simp at he; subst he
      obtain ⟨cs,h1,h2⟩:=h.ev (holdsC_nil a) hv
      obtain ⟨vs,h3,h4,h5,h6⟩:=resE_ok hT h (rs:=rs) (i:=i+1) (pre++[a.tmps.getD t undef]) (by simp [hi]) hr
      refine ⟨a.tmps.getD t undef::vs,by simp [h3],by simp [h4],?_,fun e hm=>?_⟩
      · rw [List.mapM_cons]
        simp only [pure_bind,Sem.run_bind,h5]
        rfl
      · exact resCons hi hbi (h1▸rfl) h2 h6 e hm
    · cases he
  | .cell ad t::rs,i,es,pre,hi,he=>by
    simp only [resE] at he
    split at he
    · rename_i v r hv hr
      obtain ⟨hbi,he⟩:=bvT he
      simp at he; subst he
      obtain ⟨cs,h1,h2⟩:=evalP_ok (P:=P) (o:=⟨none,.load t (.tmp ad),0, "",#[],none⟩) hT h.toW (holdsC_nil a) hv
      obtain ⟨vs,h3,h4,h5,h6⟩:=resE_ok hT h (rs:=rs) (i:=i+1) (pre++[v.val cs]) (by simp [hi]) hr
      have hp:∃p,a.tmps.getD ad undef=.pointer (some p):=by
        simp only [evalP] at hv
        split at hv
        · rename_i id path he' hx
          obtain ⟨cs1,q1,q2⟩:=h.ev (holdsC_nil a) hx
          have q2':cs1=_:=q2
          subst q2'
          exact ⟨_,q1⟩
        · rename_i t' y he' hx
          obtain ⟨cs1,q1,v0,q2,b,o,_,q3,_⟩:=h.ev (holdsC_nil a) hx
          subst q2; subst q3
          exact ⟨_,q1⟩
        · cases hv
      obtain ⟨p,hp⟩:=hp
      have hl:(loadVar t p).run P w=.ok (v.val cs) w:=by
        have h1':=h1
        unfold execOp at h1'
        have hp':a.eval (.tmp ad)=.pointer (some p):=hp
        simp only [hp',Instr.loadAt,Instr.sureAddr,Sem.run_bind,Sem.run_pure,Result.andThen_ok] at h1'
        cases hr:(loadVar t p).run P w with
        | ok v1 w1 =>
          rw [hr] at h1'
          simp at h1'
          rw [h1'.1,h1'.2]
        | _=>rw [hr] at h1'; simp [Result.andThen] at h1'
      refine ⟨v.val cs::vs,by simp [h3],by simp [h4],?_,fun e hm=>?_⟩
      · rw [List.mapM_cons]
        simp only [hp,asAddr_some,pure_bind,Sem.run_bind,hl,Result.andThen_ok,h5]
        rfl
      · exact resCons hi hbi rfl h2 h6 e hm
    · cases he
where
  resCons {i:Nat} {pre vs:List Value} {v0:Value} {v:AV} {cs:List Value} {r:List En} (hi:pre.length=i) (hbi:Nat.blt i 100000=true) (hv:v0=v.val cs) (h2:cr β ρ (okR X β ρ S.flat.mem w) w false v cs)
      (h6:∀e∈r,(enD β ρ ⟨(pre++[v0]++vs).toArray,[]⟩ e).p (okR X β ρ S.flat.mem w) w):∀e∈(⟨i,[],v⟩::r:List En),(enD β ρ ⟨(pre++v0::vs).toArray,[]⟩ e).p (okR X β ρ S.flat.mem w) w:=by
    intro e hm
    have hl:pre++[v0]++vs=pre++(v0::vs):=by simp
    rw [hl] at h6
    rcases List.mem_cons.1 hm with rfl | hm
    · refine ⟨fun _=>⟨cs,?_,h2⟩,.inl (holdsC_nil _)⟩
      rw [rd_lt hbi]
      simp only [List.getElem?_toArray]
      rw [List.getElem?_append_right (by omega),←hi]
      simp only [Nat.sub_self,List.getElem?_cons_zero]
      exact congrArg some hv
    · exact h6 e hm
theorem keysUp_ok:∀{l:List (Nat×Sk)} {i:Nat} {vs:List DV},keysUp l i=true→∀(j:Nat) e,(encEnv l vs).1[j]?=some e→e.t=i+j∧e.cs=[]
  | [],i,vs,_,j,e,h=>by simp [encEnv] at h
  | (t,s)::l,i,vs,hk,j,e,h=>by
    simp only [keysUp,Bool.and_eq_true] at hk
    simp only [encEnv] at h
    cases j with
    | zero =>
      simp at h; subst h
      exact ⟨Nat.eq_of_beq_eq_true hk.1,rfl⟩
    | succ j =>
      obtain ⟨h1,h2⟩:=keysUp_ok hk.2 j e (by simpa using h)
      exact ⟨by omega,h2⟩
theorem encEnv_len:∀{l:List (Nat×Sk)} {vs:List DV},(encEnv l vs).1.length=l.length
  | [],vs=>rfl
  | (t,s)::l,vs=>by simp only [encEnv,List.length_cons,encEnv_len]
theorem globE_ok {gl:List (Nat×Σ t:Ty,t.De)} {ok ok':Ok} {w:World} {β:Nat→Nat} {ρ:Nat→Value} {a:Act} (h:GlobOk gl ok w) (hk:∀b o,ok b o→ok' b o):∀e∈globE gl,(enD β ρ a e).p ok' w:=by
  intro e he
  obtain ⟨q,hq,rfl⟩:=List.mem_map.1 he
  refine ⟨fun _=>⟨[.pointer (some ⟨q.1,0,none⟩)],rd_var a q.1,_,rfl,(h q hq).1.weak hk⟩,.inl (holdsC_nil a)⟩
theorem conNone {P:Program} {gl:List (Nat×Σ t:Ty,t.De)} {c:Con} (h:∀x,c.fn x=none):ConOk P gl c:=fun ok w L β ρ x y vs _ _ _ _ _ hy=>by rw [h] at hy; cases hy
def S00 (Y:TX) (c:Con) (x:c.Γ.De):XS:=⟨(enc c.Γ x).env,globE Y.gl,wrM c.ro (enc c.Γ x).mem,rdM c.ro (enc c.Γ x).mem,c.Γ.mem.map Prod.fst⟩
theorem wr_rd {ro:List Nat}:∀(M:List (Nat×Ob)),M.Perm (wrM ro M++rdM ro M)
  | []=>.nil
  | q::l=>by
    have ih:=wr_rd (ro:=ro) l
    unfold wrM rdM at *
    cases hm:memN ro q.1 with
    | true =>
      simp only [List.filter_cons,hm,Bool.not_true,Bool.false_eq_true,if_false,if_true]
      exact (List.Perm.cons q ih).trans List.perm_middle.symm
    | false =>
      simp only [List.filter_cons,hm,Bool.not_false,Bool.false_eq_true,if_false,if_true]
      exact List.Perm.cons q ih
def kFin (Y:TX) (fn:Func) (c:Con):Ex→XS→Option c.Δ.De:=fun e S=>match e with
  | .x _=>none
  | .n=>fin Y fn c.Δ S
  | .r=>fin Y fn c.Δ S
theorem arg_rel {fn:Func} {c:Con} (hku:keysUp c.Γ.env 0=true) (hks:Nat.blt c.Γ.env.length 100000=true) {ok:Ok} {w:World} {L:List Nat} {β:Nat→Nat} {ρ:Nat→Value} {x:c.Γ.De} {vs:List Value} {a:Act} (hok:∀b o,ok b o→b<w.heap.size) (hG:GlobOk Y.gl ok w) (hL:Lends (memO β ρ (enc c.Γ x).mem) L ok w)
    (hargs:∀e∈(enc c.Γ x).env,∃cs,vs[e.t]?=some (e.av.val cs)∧cr β ρ ok w false e.av cs) (h0:Sb (fun _=>0) (cxL L fn.ntmps ok w) (zipG vs 0) [] [] (memO β ρ (enc c.Γ x).mem) a w):Rel (cxL L fn.ntmps ok w) β ρ (S00 Y c x).flat a w:=by
  have hp:=(wr_rd (ro:=c.ro) (enc c.Γ x).mem).map fun q=>tlOf β ρ q.1 q.2
  have hk0:∀b o,ok b o→okR (cxL L fn.ntmps ok w) β ρ (wrM c.ro (enc c.Γ x).mem++rdM c.ro (enc c.Γ x).mem) w b o:=fun b o hbo=>⟨.inl (.inl hbo),hok b o hbo,by simp,fun t ht hc=>(hL.1 t (hp.mem_iff.2 ht)).2.2 b o (t.cb hc) hbo⟩
  have hR:Rel (cxL L fn.ntmps ok w) β ρ (XS.flat (S00 Y c x)) a w:=by
    have e:XS.flat (S00 Y c x)=⟨(enc c.Γ x).env++globE Y.gl,wrM c.ro (enc c.Γ x).mem++rdM c.ro (enc c.Γ x).mem⟩:=rfl
    rw [e]
    replace h0:=Sb.perm h0 hp
    refine Rel.ofSb h0 rfl fun e he=>?_
    rcases List.mem_append.1 he with he | he
    case inr=>exact globE_ok hG hk0 e he
    obtain ⟨cs,h1,h2⟩:=hargs e he
    have hcs:e.cs=[]:=by
      unfold enc at he
      split at he
      rename_i es r hes
      exact encEnv_cs (Γe:=c.Γ.env) e (by rw [hes]; exact he)
    refine ⟨fun _=>⟨cs,?_,cr_weak h2 hk0⟩,.inl (by rw [hcs]; exact holdsC_nil a)⟩
    have hz:∀{us:List Value} {i j:Nat} {v:Value},us[j]?=some v→(i+j,Gd.AV.v v)∈zipG us i:=by
      intro us
      induction us with
      | nil=>intro i j v h; simp at h
      | cons u us ih =>
        intro i j v h
        cases j with
        | zero=>simp at h; subst h; exact .head _
        | succ j =>
          have:=ih (i:=i+1) (j:=j) (v:=v) (by simpa using h)
          rw [show i+(j+1)=i+1+j by omega]
          exact .tail _ this
    have hsm:Nat.blt e.t 100000=true:=by
      obtain ⟨j,hj⟩:=List.getElem?_of_mem he
      have hk2:e.t=0+j:=by
        unfold enc at hj
        split at hj
        rename_i es0 r0 hes0
        exact (keysUp_ok (vs:=toL c.Γ.tys x) hku j e (by rw [hes0]; exact hj)).1
      have hjl:j<c.Γ.env.length:=by
        have h4:=(List.getElem?_eq_some_iff.1 hj).1
        unfold enc at h4
        have h5:=encEnv_len (l:=c.Γ.env) (vs:=toL c.Γ.tys x)
        split at h4
        rename_i es0 r0 hes0
        rw [hes0] at h5
        simp only at h4 h5
        omega
      have:=Nat.le_of_ble_eq_true hks
      rw [hk2]
      exact Nat.ble_eq_true_of_le (by omega)
    have:=h0.tm _ (hz (i:=0) h1)
    rw [rd_lt hsm]
    simpa [den_v] using this
  exact hR
theorem ret_fin (hT:TabOk P Y.T) {fn:Func} {c:Con} {ok:Ok} {w:World} {L:List Nat} {β:Nat→Nat} {ρ:Nat→Value} {x:c.Γ.De} {y:c.Δ.De} {β':Nat→Nat} {ρ':Nat→Value} {S':XS} {a':Act} {w':World}
    (h2:Keeps (S00 Y c x) S' β β' ρ ρ') (h3:Rel (cxL L fn.ntmps ok w) β' ρ' S'.flat a' w'):fin Y fn c.Δ S'=some y→bodyPost P fn (RetL L w (PostC c β ρ ok L w x y)) .ret a' w':=by
  intro hfin
  unfold fin at hfin
  split at hfin
  · rename_i es hes
    obtain ⟨hkb,hd⟩:=bvT hfin
    simp only [Bool.and_eq_true] at hkb
    have hksm:=Nat.le_of_ble_eq_true hkb.2
    replace hkb:=hkb.1
    have hel:=Nat.eq_of_beq_eq_true hkb.2
    obtain ⟨rv,r1,r2,r3,r4⟩:=resE_ok hT h3 [] rfl hes
    simp only [List.nil_append] at r4
    have hRes:Rel { cxL L fn.ntmps ok w with n:=rv.length } β' ρ' (XS.flat ⟨es,[],S'.mem,S'.fixM,S'.prot⟩) ⟨rv.toArray,[]⟩ w':=by
      have e:XS.flat ⟨es,[],S'.mem,S'.fixM,S'.prot⟩=⟨es,S'.flat.mem⟩:=by simp [XS.flat]
      rw [e]
      have hSb:Sb (fun _=>0) { cxL L fn.ntmps ok w with n:=rv.length } [] [] [] (memO β' ρ' S'.flat.mem) ⟨rv.toArray,[]⟩ w' :=
        { sz:=by simp,df:=rfl,fr:=by simp,pn:=by simp,tm:=by simp,bel:=h3.bel,dat:=trivial,obj:=by simp,own:=h3.own,dHH:=by simp,dHO:=by simp,dOO:=h3.dOO }
      exact Rel.ofSb hSb rfl fun e he=>r4 e he
    obtain ⟨β2,ρ2,h4,h5⟩:=XS.dec_ok hRes hd
    have hfm:S'.fixM=roM c x:=h2.fixM
    have hpr:S'.prot=c.Γ.mem.map Prod.fst:=h2.prot
    rw [hfm] at h5
    have hfacts:∀(j:Nat) e,(enc c.Δ y).env[j]?=some e→∃cs,rv[j]?=some (e.av.val cs)∧cr β2 ρ2 (okOf (okL L ok) w.heap.size (fun _=>0) [] (memO β2 ρ2 ((enc c.Δ y).mem++roM c x)) w') w' false e.av cs:=by
      intro j e he
      have hk2:e.t=0+j∧e.cs=[]:=by
        unfold enc at he
        split at he
        rename_i es0 r0 hes0
        exact keysUp_ok (vs:=toL c.Δ.tys y) hkb.1 j e (by rw [hes0]; exact he)
      have hen:=h5.en (List.mem_append_left _ (List.mem_of_getElem? he))
      obtain ⟨cs,q1,q2⟩:=hen.1 (by rw [hk2.2]; exact holdsC_nil _)
      rw [hk2.1,Nat.zero_add] at q1
      have hjl:j<c.Δ.env.length:=by
        have h4:=(List.getElem?_eq_some_iff.1 he).1
        unfold enc at h4
        have h5:=encEnv_len (l:=c.Δ.env) (vs:=toL c.Δ.tys y)
        split at h4
        rename_i es0 r0 hes0
        rw [hes0] at h5
        simp only at h4 h5
        omega
      rw [rd_lt (Nat.ble_eq_true_of_le (by omega))] at q1
      exact ⟨cs,by simpa using q1,q2⟩
    have hlenE:(enc c.Δ y).env.length=rv.length:=by
      have:(enc c.Δ y).env.length=c.Δ.env.length:=by
        unfold enc
        have:=encEnv_len (l:=c.Δ.env) (vs:=toL c.Δ.tys y)
        split
        rename_i es0 r0 hes0
        rw [hes0] at this
        exact this
      omega
    have hres:(results fn a'.tmps).run P w'=.ok (if h:rv.toArray.size=1 then rv.toArray[0] else .tuple rv.toArray) w':=by
      unfold results
      rw [Array.mapM_eq_mapM_toList]
      simp only [Sem.run_bind,Sem.run_map,bind_pure_comp]
      exact congrArg (fun z:Result (List Value)=>(z.andThen fun a w'=>Result.ok a.toArray w').andThen fun a w'=>Result.ok (if h:a.size=1 then a[0] else Value.tuple a) w') r3
    refine ⟨h3.df,_,hres,_,rfl,⟨β2,ρ2,?_,?_,?_,?_⟩,h3.bel⟩
    · exact agP.trans h2.ag (by rw [←hpr]; exact h4)
    · by_cases hl1:rv.length=1
      · obtain ⟨e0,he0⟩:=List.length_eq_one_iff.1 (hlenE.trans hl1)
        obtain ⟨cs,q1,q2⟩:=hfacts 0 e0 (by rw [he0]; rfl)
        have hra:resAV (enc c.Δ y).env=e0.av:=by rw [he0]; rfl
        rw [hra]
        refine ⟨cs,?_,q2⟩
        rw [dif_pos (by simpa using hl1)]
        have hlt:0<rv.length:=by omega
        rw [List.getElem?_eq_getElem hlt] at q1
        exact Option.some.inj q1
      · have hra:resAV (enc c.Δ y).env=.tp (valsE (enc c.Δ y).env):=by
          unfold resAV
          split
          · rename_i e0 he0
            exact absurd (by rw [←hlenE,he0]; rfl) hl1
          · rfl
        rw [hra]
        refine ⟨[.tuple rv.toArray],?_,rv,rfl,?_⟩
        · rw [dif_neg (by simpa using hl1)]; rfl
        · exact valsE_ok (i:=0) hfacts hlenE.symm
    · exact fun t ht=>h5.own t ht
    · exact h5.dOO
  · cases hfin
theorem body_ok (hT:TabOk P Y.T) {f:FuncId} {fn:Func} (hf:P.funcs[f]?=some fn) {c:Con} (hcf:c.f=f) {code:Code} (hb:fn.body=some code) (hble:Nat.ble c.Γ.env.length fn.ntmps=true) (hku:keysUp c.Γ.env 0=true) (hks:Nat.blt c.Γ.env.length 100000=true)
    (hway:∀(x:c.Γ.De) (y:c.Δ.De) (X:Cx) (β:Nat→Nat) (ρ:Nat→Value) (a:Act) (w:World) (Q:Exit→Act→World→Prop),c.fn x=some y→GlobOk Y.gl (okN X) X.w→X.n=fn.ntmps→X.res=[]→X.pin=none→Rel X β ρ (S00 Y c x).flat a w→COk Q X (S00 Y c x) β ρ (kFin Y fn c) y→code.wp P Q a w):ConOk P Y.gl c:=by
  intro ok w L β ρ x y vs hok hG hlen hL hargs hy
  rw [hcf]
  refine enter_okL (n:=fn.ntmps) (L:=L) (O:=memO β ρ (enc c.Γ x).mem) (D:=[]) hok hf hb rfl (by rw [hlen]; exact hble) trivial hL fun a h0=>?_
  have hR:=arg_rel (Y:=Y) (fn:=fn) hku hks hok hG hL hargs h0
  refine hway x y _ β ρ a w _ hy (hG.weak fun b o hbo=>⟨.inl hbo,fun hbl=>hL.2.2 b hbl |>.elim fun t ht=>(hL.1 t ht.1).2.2 b o ht.2 hbo,hok b o hbo⟩) rfl rfl rfl hR fun e β' ρ' S' a' w' h1 h2 h3=>?_
  have key:=ret_fin (y:=y) hT h2 h3
  cases e with
  | n=>exact key h1
  | x i=>cases h1
  | r=>exact key h1
theorem runF_ok (hT:TabOk P Y.T) (hmix:P.follows .mixedOrders=true) (hK:KsOk P Y.gl K) {f:FuncId} {fn:Func} (hf:P.funcs[f]?=some fn) {an:An} {c:Con} (hcf:c.f=f) (hrun:∀x,c.fn x=runF Y K N fn an c.ro c.Γ c.Δ x):ConOk P Y.gl c:=by
  cases hb:fn.body with
  | none =>
    refine conNone fun x=>?_
    rw [hrun]
    unfold runF
    rw [hb]
  | some code =>
    by_cases hc:(Nat.ble c.Γ.env.length fn.ntmps&&(keysUp c.Γ.env 0&&Nat.blt c.Γ.env.length 100000))=true
    · have hc':=hc
      simp only [Bool.and_eq_true] at hc'
      refine body_ok hT hf hcf hb hc'.1 hc'.2.1 hc'.2.2 fun x y X β ρ a w Q hy hG hX hr hp hR H=>?_
      rw [hrun] at hy
      unfold runF at hy
      rw [hb,hc] at hy
      exact runI_ok hT hmix ⟨hK,hG⟩ hX hr hp an hR hy H
    · refine conNone fun x=>?_
      rw [hrun]
      unfold runF
      rw [hb]
      simp only
      rw [show (Nat.ble c.Γ.env.length fn.ntmps&&(keysUp c.Γ.env 0&&Nat.blt c.Γ.env.length 100000))=false from Bool.eq_false_iff.2 hc]
      rfl
end
end Gx
namespace Gx
open Go
theorem ksNil {P:Program} {gl:List (Nat×Σ t:Ty,t.De)}:KsOk P gl []:=fun _ h=>by cases h
theorem ksCons {P:Program} {c:Con} {gl:List (Nat×Σ t:Ty,t.De)} {K:List Con} (h:ConOk P gl c) (hr:Gd.Runs P c.f) (hk:KsOk P gl K):KsOk P gl (c::K):=fun d hd=>by
  rcases List.mem_cons.1 hd with rfl | hd
  · exact ⟨h,hr⟩
  · exact hk d hd
end Gx

/- The rest of the state set aside; objects that are no cells; pieces of code in a round. -/
namespace Gx
open Go Go.RowKit Gd
set_option linter.unusedVariables false
set_option linter.unusedSimpArgs false
section
variable {P:Program} {Y:TX} {X:Cx} {β β':Nat→Nat} {ρ ρ':Nat→Value} {S S':St} {a a':Act} {w w':World}
noncomputable def reX (X:Cx) (β:Nat→Nat) (ρ:Nat→Value) (M:List (Nat×Ob)) (w:World):Cx :=
  { cxL (blksL w.heap.size (memO β ρ M)) X.n (okR X β ρ M w) w with dfs:=X.dfs }
theorem mem_blksL {n:Nat} {O:List TL} {g:Nat}:g∈blksL n O↔g<n∧∃t∈O,t.blks g:=by
  unfold blksL
  rw [List.mem_filter,List.mem_range]
  simp only [decide_eq_true_eq]
theorem covM {M:List (Nat×Ob)} (hV:noTailM M=true):∀t∈memO β ρ M,∀b o,t.blks b→t.cov b o:=fun t ht b o hb=>by
  obtain ⟨q,hq,rfl⟩:=List.mem_map.1 ht
  exact noTail_cov hV hq hb
theorem rebase {gl:List (Nat×Σ t:Ty,t.De)} (hG:GlobOk gl (okN X) X.w) (h:Rel X β ρ S a w) (hV:noTailM S.mem=true) :
    Rel (reX X β ρ S.mem w) β ρ S a w∧GlobOk gl (okN (reX X β ρ S.mem w)) (reX X β ρ S.mem w).w:=by
  have hL1:∀t∈memO β ρ S.mem,∀g,t.blks g→g∈blksL w.heap.size (memO β ρ S.mem):=fun t ht g hg=>mem_blksL.2 ⟨h.olt ht hg,t,ht,hg⟩
  have hk:∀b f,okOf X.ok X.w.heap.size (fun _=>0) [] (memO β ρ S.mem) w b f→okOf (okL (blksL w.heap.size (memO β ρ S.mem)) (okOf X.ok X.w.heap.size (fun _=>0) [] (memO β ρ S.mem) w)) w.heap.size (fun _=>0) [] (memO β ρ S.mem) w b f :=
    fun b f hbo=>⟨.inl (.inl hbo),hbo.2.1,by simp,fun t ht hc=>hbo.2.2.2 t ht hc⟩
  refine ⟨?_,?_⟩
  · exact { sz:=h.sz,df:=h.df,fr:=by simp [reX],pn:=by simp [reX],tm:=by simp,bel:=BelowL.refl _ _ _,obj:=by simp,dHH:=by simp,dHO:=by simp,
            dat:=AllD_mem.2 fun x hx=>by
              obtain ⟨e,he,rfl⟩:=List.mem_map.1 hx
              exact (enD β ρ a e).weak (AllD_mem.1 h.dat _ (List.mem_map.2 ⟨e,he,rfl⟩)) hk,
            own:=fun t ht=>⟨t.weak (h.own t ht).1 hk,fun g hg=>.inr (hL1 t ht g hg)⟩,
            dOO:=h.dOO }
  · exact (glob_here h hG).weak fun b f hbo=>⟨.inl hbo,fun hbl=>by
      obtain ⟨_,t,ht,hg⟩:=mem_blksL.1 hbl
      exact hbo.2.2.2 t ht (covM hV t ht b f hg),hbo.2.1⟩
theorem recomp (h:Rel X β ρ S a w) (hV:noTailM S.mem=true) (hr:X.res=[]) (hp:X.pin=none) (hR:Rel (reX X β ρ S.mem w) β' ρ' S' a' w'):Rel X β' ρ' S' a' w':=by
  have hL2:∀g∈blksL w.heap.size (memO β ρ S.mem),∃t∈memO β ρ S.mem,t.blks g:=fun g hg=>(mem_blksL.1 hg).2
  have hS:Sb (fun _=>0) X [] (S.env.map (enD β ρ a)) [] (memO β ρ S.mem++[]) a w:=by rw [List.append_nil]; exact h
  have eo:okOf X.ok X.w.heap.size (fun _=>0) [] (memO β ρ S.mem++[]) w=okOf X.ok X.w.heap.size (fun _=>0) [] (memO β ρ S.mem) w:=by rw [List.append_nil]
  have hC:=Sb.callO (O1':=memO β' ρ' S'.mem) (w':=w') (L:=blksL w.heap.size (memO β ρ S.mem)) hS hR.bel hL2 (covM hV) (fun t ht=>⟨by rw [eo]; exact (hR.own t ht).1,fun g hg=>(hR.own t ht).2 g hg⟩) hR.dOO
  rw [List.append_nil] at hC
  have hC3:Sb (fun _=>0) X [] [] [] (memO β' ρ' S'.mem) a' w' :=
    { sz:=hR.sz,df:=hR.df,fr:=by rw [hr]; simp,pn:=by rw [hp]; simp,tm:=by simp,bel:=hC.bel,dat:=trivial,obj:=by simp,own:=hC.own,dHH:=by simp,dHO:=by simp,dOO:=hC.dOO }
  refine Rel.ofSb hC3 rfl fun e he=>?_
  have h1:=AllD_mem.1 hR.dat _ (List.mem_map.2 ⟨e,he,rfl⟩)
  refine (enD β' ρ' a' e).weak h1 fun b f hbf=>?_
  have h2:=okOf_call (O1':=memO β' ρ' S'.mem) hS hR.bel.size hL2 b f (by rw [eo]; exact hbf)
  rw [List.append_nil] at h2
  exact h2
theorem own_row {e sz:Nat} {v:Value} {n:Nat} {xs:List Value} (h:w.ownsRowS 0 e sz v n xs) {g:Nat} (hg:v.ownBlock=some g):∃o:Obj,w.heap[g]?=some o∧(o.isCells=true∨∃es c,o=.map es c):=by
  rcases h.2 with ⟨rfl,_⟩ | ⟨g',cap,cur,fz,rfl,_,hh,_⟩
  · cases hg
  · have hg:some g'=some g:=hg
    injection hg with hg; subst hg
    exact ⟨_,hh,.inl rfl⟩
theorem mapQ_kind {κ ν τ:Type} {r:RT κ} {s:RT ν} {u:RT τ} {e off:Nat} {f:ν→List τ} {hole:Option κ} {hv:Value} {ok:Ok}:∀{xs:List (κ×ν)} {es:List MapEntry} {vs:List Value},mapQ r s u e off f hole hv ok w xs es vs→∀v∈vs,∀g,v.ownBlock=some g→∃o:Obj,w.heap[g]?=some o∧(o.isCells=true∨∃es c,o=.map es c)
  | [],[],[],h=>by simp
  | x::xs,en::es,v::vs,⟨h1,h2,h3,h4⟩=>by
    intro y hy g hg
    rcases List.mem_cons.1 hy with rfl | hy
    · rcases h3 with ⟨_,rfl,_⟩ | ⟨_,_,ys,h3⟩
      · cases hg
      · exact own_row h3 hg
    · exact mapQ_kind h4 y hy g hg
  | [],[],_::_,h=>h.elim
  | [],_::_,_,h=>h.elim
  | _::_,[],_,h=>h.elim
  | _::_,_::_,[],h=>h.elim
theorem blk_kind {ok:Ok} {id:Nat} {o:Ob} (h:(tlOf β ρ id o).p ok w) {g:Nat} (hg:(tlOf β ρ id o).blks g):∃o:Obj,w.heap[g]?=some o∧(o.isCells=true∨∃es c,o=.map es c):=by
  cases o with
  | var tid c =>
    obtain ⟨cs,h1,_⟩:=h
    have hg:g=β id:=hg
    subst hg
    exact ⟨_,h1,.inl rfl⟩
  | row e t xs =>
    obtain ⟨_,cs,h1,_⟩:=h
    exact own_row h1 hg
  | tail e t xs =>
    obtain ⟨_,ys,h1⟩:=h
    exact own_row h1 hg
  | map k v xs =>
    obtain ⟨es,c,h1,_⟩:=h
    have hg:g=β id:=hg
    subst hg
    exact ⟨_,h1,.inr ⟨_,_,rfl⟩⟩
  | mapT k v path e u xs hole =>
    obtain ⟨f,hf,es,c,h1,h2,_⟩:=h
    rcases hg with hg | ⟨v,hv,hg⟩
    · subst hg; exact ⟨_,h1,.inr ⟨_,_,rfl⟩⟩
    · exact mapQ_kind h2 v hv g hg
  | mapO k9 xs9 hole =>
    obtain ⟨xs',⟨es,c,h1,_⟩,_⟩:=h
    have hg:g=β id:=hg
    subst hg
    exact ⟨_,h1,.inr ⟨_,_,rfl⟩⟩
theorem Rel.notOwn (h:Rel X β ρ S a w) {g:Nat} {o:Obj} (ho:w.heap[g]?=some o) (hc:o.isCells=false) (hm:∀es c,o≠.map es c):∀t∈memO β ρ S.mem,¬ t.blks g:=fun t ht hg=>by
  obtain ⟨q,hq,rfl⟩:=List.mem_map.1 ht
  obtain ⟨o',h1,h2⟩:=blk_kind (h.own _ ht).1 hg
  rw [ho] at h1
  injection h1 with h1; subst h1
  rcases h2 with h2 | ⟨es,c,h2⟩
  · rw [hc] at h2; cases h2
  · exact hm _ _ h2
theorem cell_none {g o:Nat} {ob:Obj} (h:w.heap[g]?=some ob) (hc:ob.isCells=false):w.cell? ⟨g,o,none⟩=none:=by
  unfold World.cell?
  cases ob<;>simp_all [Obj.isCells]
theorem Rel.turn (h:Rel X β ρ S a w) {g:Nat} {o o':Obj} (hB:X.w.heap.size≤g) (ho:w.heap[g]?=some o) (hc:o.isCells=false) (hm:∀es c,o≠.map es c) (hc':o'.isCells=false):Rel X β ρ S a (w.putObj g o'):=by
  have hn:=h.notOwn ho hc hm
  have hsame:∀b,b≠g→(w.putObj g o').heap[b]?=w.heap[b]?:=fun b hb=>World.putObj_heap_other hb
  have hlt:=(Array.getElem?_eq_some_iff.1 ho).1
  have hevo:Evo (okOf X.ok X.w.heap.size (fun _=>0) [] (memO β ρ S.mem) w) w (w.putObj g o') :=
    ⟨by simp,fun b f _=>by
      by_cases e:b=g
      · subst e
        rw [cell_none ho hc,cell_none (World.putObj_heap_same hlt) hc']
      · exact World.cell?_of_block (w:=w) (hsame b e),fun b es c _ hb=>by
      have hne:b≠g:=fun e=>by subst e; rw [ho] at hb; injection hb with hb; exact hm _ _ hb
      rw [hsame b hne]; exact hb⟩
  have hok:∀b f,okOf X.ok X.w.heap.size (fun _=>0) [] (memO β ρ S.mem) w b f→okOf X.ok X.w.heap.size (fun _=>0) [] (memO β ρ S.mem) (w.putObj g o') b f:=fun b f ⟨h1,h2,h3,h4⟩=>⟨h1,by simpa using h2,h3,h4⟩
  exact { sz:=h.sz,df:=h.df,fr:=h.fr,pn:=h.pn,tm:=h.tm,bel:=h.bel.trans ⟨rfl,rfl,rfl,by simp,fun k hk _=>hsame k (by omega)⟩,dat:=(h.dat.evo hevo).weak hok,obj:=by simp,
          own:=fun t ht=>⟨t.weak (t.keep (h.own t ht).1 (fun b hb=>hsame b fun e=>hn t ht (e▸hb)) hevo) hok,(h.own t ht).2⟩,dHH:=by simp,dHO:=by simp,dOO:=h.dOO }
theorem Rel.withD (h:Rel X β ρ S a w) (ds:List Deferred):Rel { X with dfs:=ds } β ρ S { a with defers:=ds } w :=
  { sz:=h.sz,df:=rfl,fr:=h.fr,pn:=h.pn,tm:=h.tm,bel:=h.bel,dat:=h.dat,obj:=h.obj,own:=h.own,dHH:=h.dHH,dHO:=h.dHO,dOO:=h.dOO }
end
def SameOn (ds:List Nat) (a a':Act):Prop:=∀t,t∉ds→a'.tmps[t]?=a.tmps[t]?
theorem SameOn.put {ds:List Nat} {a0 a:Act} (h:SameOn ds a0 a) {o:Option Nat} (ho:∀d,o=some d→d∈ds) (v:Value):SameOn ds a0 (a.put o v):=fun t ht=>by
  cases o with
  | none=>exact h t ht
  | some d=>rw [put_other (fun e=>ht (by subst e; exact ho _ rfl))]; exact h t ht
abbrev wideR (ro:Option Nat):Fence:={ Fence.wide with round:=ro }
def QL (ds:List Nat) (a0:Act) (Z:Act→World→Prop) (Q:Exit→Act→World→Prop):Exit→Act→World→Prop
  | .normal,a',w'=>SameOn ds a0 a'→Z a' w'
  | e,a',w'=>Q e a' w'
def QS (ds:List Nat) (a0:Act) (Q:Exit→Act→World→Prop):Exit→Act→World→Prop:=QL ds a0 (Q .normal) Q
def noDefer:List Oper→Bool
  | []=>true
  | o::l=>(match o.op with
    | .defer _=>false
    | _=>true)&&noDefer l
def dstsL:List Oper→List Nat
  | []=>[]
  | o::l=>match o.dst with
    | some d=>d::dstsL l
    | none=>dstsL l
theorem rowsIn_round {P:Program} {row:String} {args:Array Value} {w:World} {R:Value→World→Prop} (ro:Option Nat) (m:Nat) (h:Rows P row args w R):RowsIn (wideR ro) m P row args w R :=
  fun c cs _=>let ⟨v,w',r,s⟩:=h c cs; ⟨v,w',r,(stepsIn_wide.2 s:StepsIn (Machine.fenced P Fence.wide) P _ _)⟩
theorem callsIn_round {P:Program} {f:FuncId} {args:Array Value} {w:World} {R:Ending→World→Prop} (ro:Option Nat) (m:Nat) (h:Calls P f args w R):CallsIn (wideR ro) m P f args w R:=(callsIn_wide.2 h:CallsIn Fence.wide m P f args w R)
theorem wpList_tl {P:Program} {ops:Array Oper} {Q:Exit→Act→World→Prop} {ro:Option Nat} {m:Nat} {ds:List Nat} {a0:Act} {Z:Act→World→Prop} {tl:List Oper} (hQ:¬ LetsOut Q) (hZ:∀a w,Z a w→wpListIn (wideR ro) m P ops Q tl a w):∀(os:List Oper),noDefer os=true→(∀d∈dstsL os,d∈ds)→∀(a:Act) (w:World),SameOn ds a0 a→wpList P ops (QL ds a0 Z Q) os a w→wpListIn (wideR ro) m P ops Q (os++tl) a w
  | [],_,_,a,w,hs,h=>hZ a w (h hs)
  | o::os,hn,hd,a,w,hs,h=>by
    simp only [noDefer,Bool.and_eq_true] at hn
    have hod:∀d,o.dst=some d→d∈ds:=fun d e=>hd d (by simp [dstsL,e])
    have hd2:∀d∈dstsL os,d∈ds:=fun d hm=>hd d (by unfold dstsL; split<;>first | exact .tail _ hm | exact hm)
    have ih:∀(a:Act) (w:World),SameOn ds a0 a→wpList P ops (QL ds a0 Z Q) os a w→wpListIn (wideR ro) m P ops Q (os++tl) a w:=fun a w=>wpList_tl hQ hZ os hn.2 hd2 a w
    unfold wpList at h
    rw [List.cons_append]
    unfold wpListIn
    split at h
    · rename_i hw
      rw [if_pos hw]
      refine ⟨fun _ _=>trivial,?_⟩
      have hnd:∀c,o.op≠.defer c:=fun c hc=>by
        have:=hn.1
        rw [hc] at this; cases this
      have hsem:Oper.semAt (wideR ro).round a.eval o=execOp a.eval o:=by
        cases ro with
        | none=>exact Oper.semAt_none _ _
        | some l=>exact Oper.semAt_some l _ o hnd
      rw [hsem]
      rcases h with h | ⟨_,h⟩
      · unfold Oper.wp at h
        cases hr:(execOp a.eval o).run P w with
        | ok nx w' =>
          rw [hr] at h
          cases nx with
          | value v=>exact ih _ _ (hs.put hod v) h
          | skip=>exact ih _ _ (hs.put hod undef) h
          | defer d=>exact ih _ _ (SameOn.put (a:={ a with defers:=d::a.defers }) hs hod undef) h
          | enter f args =>
            refine ⟨fun hd=>(by have h0:(wideR ro).depth.isSome=false:=rfl; rw [h0] at hd; cases hd),?_⟩
            refine callsIn_round ro _ (Calls.mono h fun e w' he=>?_)
            cases e with
            | returned v=>exact ih _ _ (hs.put hod v) he
            | panicked c=>exact he
            | outgrown=>exact he
          | row rw' args =>
            exact ⟨fun hd=>(by have h0:(wideR ro).depth.isSome=false:=rfl; rw [h0] at hd; cases hd),rowsIn_round ro _ (Rows.mono h fun v w' hv=>ih _ _ (hs.put hod v) hv)⟩
          | _=>exact h.elim
        | halt hl w' =>
          rw [hr] at h
          cases hl with
          | panic v=>exact h
          | _=>exact h.elim
      · exact absurd (show LetsOut Q from h) hQ
    · rename_i hw
      rw [if_neg hw]
      exact ⟨fun _ _=>trivial,ih _ _ (hs.put hod undef) h⟩
theorem wpList_in {P:Program} {ops:Array Oper} {Q:Exit→Act→World→Prop} {ro:Option Nat} {m:Nat} {ds:List Nat} {a0:Act} (hQ:¬ LetsOut Q) (os:List Oper) (hn:noDefer os=true) (hd:∀d∈dstsL os,d∈ds) (a:Act) (w:World) (hs:SameOn ds a0 a) (h:wpList P ops (QS ds a0 Q) os a w):wpListIn (wideR ro) m P ops Q os a w:=by
  have:=wpList_tl (ro:=ro) (m:=m) (Z:=Q .normal) (tl:=[]) hQ (fun a w hz=>hz) os hn hd a w hs h
  rwa [List.append_nil] at this
def rb:An→Code→Bool
  | .nil,.skip=>true
  | .reg _,.region _ ⟨ops⟩ false=>noDefer ops
  | .two a b,.seq x y=>rb a x&&rb b y
  | .two a b,.cond _ x y=>rb a x&&rb b y
  | .un a,.block _ c=>rb a c
  | .gh _ a,c=>rb a c
  | _,_=>false
def codeDs:Code→List Nat
  | .region _ ⟨ops⟩ _=>dstsL ops
  | .seq x y=>codeDs x++codeDs y
  | .cond _ x y=>codeDs x++codeDs y
  | .block _ c=>codeDs c
  | _=>[]
section
variable {P:Program} {Y:TX} {X:Cx} {n N:Nat} {K:List Con}
theorem runB_ok (hT:TabOk P Y.T) (hmix:P.follows .mixedOrders=true) (hK:KsX P Y X K) (hX:X.n=n) (hr:X.res=[]) (hpin:X.pin=none) {ro:Option Nat} {m:Nat} {ds:List Nat} {a0:Act}:∀{R:Type} {r:R} (an:An) {c:Code} {S:XS} {β:Nat→Nat} {ρ:Nat→Value} {a:Act} {w:World} {k:Ex→XS→Option R} {Q:Exit→Act→World→Prop},
    rb an c=true→¬ LetsOut Q→(∀d∈codeDs c,d∈ds)→SameOn ds a0 a→Rel X β ρ S.flat a w→runI Y K n N an c S k=some r →
    (∀(e:Ex) (β':Nat→Nat) (ρ':Nat→Value) (S':XS) (a':Act) (w':World),k e S'=some r→Keeps S S' β β' ρ ρ'→Rel X β' ρ' S'.flat a' w'→SameOn ds a0 a'→Q e.exit a' w')→c.wpIn (wideR ro) m P Q a w
  | R,r,.nil,c,S,β,ρ,a,w,k,Q,hb,hQ,hd,ha,h,hs,H=>by
    cases c<;>first | (cases hb; done) | skip
    simp only [runI] at hs
    exact wpIn_skip (H .n β ρ S a w hs (Keeps.refl _ _ _) h ha)
  | R,r,.reg hn,c,S,β,ρ,a,w,k,Q,hb,hQ,hd,ha,h,hs,H=>by
    cases c with
    | region id ops draw =>
      obtain ⟨ops⟩:=ops
      cases draw with
      | true=>cases hb
      | false =>
        simp only [runI] at hs
        refine wpIn_region_list ?_
        have:=runH_ok hT hK hX hr (Q:=QS ds a0 Q) hn (l:=ops) (rest:=[]) h hs fun β' ρ' S' a' w' h1 h2 h3=>fun hsame=>H .n β' ρ' S' a' w' h1 h2 h3 hsame
        rw [List.append_nil] at this
        exact wpList_in hQ ops hb hd a w ha this
    | _=>cases hb
  | R,r,.two x y,c,S,β,ρ,a,w,k,Q,hb,hQ,hd,ha,h,hs,H=>by
    cases c<;>first | (cases hb; done) | skip
    · rename_i c1 c2
      simp only [runI] at hs
      simp only [rb,Bool.and_eq_true] at hb
      refine wpIn_seq (runB_ok hT hmix hK hX hr hpin x hb.1 hQ (fun d hm=>hd d (List.mem_append_left _ hm)) ha h hs fun e β' ρ' S' a' w' h1 h2 h3 h4=>?_)
      cases e with
      | n=>exact runB_ok hT hmix hK hX hr hpin y hb.2 hQ (fun d hm=>hd d (List.mem_append_right _ hm)) h4 h3 h1 fun e β2 ρ2 S2 a2 w2 q1 q2 q3 q4=>H e β2 ρ2 S2 a2 w2 q1 (h2.trans q2) q3 q4
      | x i=>exact H (.x i) β' ρ' S' a' w' h1 h2 h3 h4
      | r=>exact H .r β' ρ' S' a' w' h1 h2 h3 h4
    · rename_i co c1 c2
      simp only [runI] at hs
      simp only [rb,Bool.and_eq_true] at hb
      split at hs
      · rename_i v hv
        obtain ⟨cs,h1,h2⟩:=h.ev (holdsC_nil a) hv
        have h2':cs=_:=h2
        subst h2'
        have h1':a.eval co=.bool v:=h1
        refine wpIn_cond h1' ?_
        cases v with
        | true =>
          rw [if_pos rfl] at hs ⊢
          exact runB_ok hT hmix hK hX hr hpin x hb.1 hQ (fun d hm=>hd d (List.mem_append_left _ hm)) ha h hs H
        | false =>
          rw [if_neg (by simp)] at hs ⊢
          exact runB_ok hT hmix hK hX hr hpin y hb.2 hQ (fun d hm=>hd d (List.mem_append_right _ hm)) ha h hs H
      · cases hs
  | R,r,.un x,c,S,β,ρ,a,w,k,Q,hb,hQ,hd,ha,h,hs,H=>by
    cases c<;>first | (cases hb; done) | skip
    rename_i id c1
    simp only [runI] at hs
    have hQ2:¬ LetsOut (Exit.inBlock id Q):=hQ
    refine wpIn_block (runB_ok hT hmix hK hX hr hpin x hb hQ2 hd ha h hs fun e β' ρ' S' a' w' h1 h2 h3 h4=>?_)
    cases e with
    | n=>exact H .n β' ρ' S' a' w' h1 h2 h3 h4
    | x i =>
      simp only at h1
      show if i=id then Q .normal a' w' else Q (.exit i) a' w'
      cases hb:Nat.beq i id with
      | true =>
        rw [hb] at h1
        rw [if_pos (Nat.eq_of_beq_eq_true hb)]
        exact H .n β' ρ' S' a' w' h1 h2 h3 h4
      | false =>
        rw [hb] at h1
        rw [if_neg (fun e=>by rw [e,Nat.beq_refl] at hb; cases hb)]
        exact H (.x i) β' ρ' S' a' w' h1 h2 h3 h4
    | r=>exact H .r β' ρ' S' a' w' h1 h2 h3 h4
  | R,r,.gh g x,c,S,β,ρ,a,w,k,Q,hb,hQ,hd,ha,h,hs,H=>by
    simp only [runI] at hs
    obtain ⟨S1,ρ1,q1,q2,q3⟩:=runG_ok g h hs
    have hb':rb x c=true:=by cases c<;>exact hb
    exact runB_ok hT hmix hK hX hr hpin x hb' hQ hd ha q3 q1 fun e β2 ρ2 S2 a2 w2 p1 p2 p3 p4=>H e β2 ρ2 S2 a2 w2 p1 (q2.trans p2) p3 p4
  | R,r,.dr _ _ _,c,S,β,ρ,a,w,k,Q,hb,hQ,hd,ha,h,hs,H=>by cases c<;>cases hb
  | R,r,.dm _ _ _ _,c,S,β,ρ,a,w,k,Q,hb,hQ,hd,ha,h,hs,H=>by cases c<;>cases hb
  | R,r,.dc _ _ _ _ _,c,S,β,ρ,a,w,k,Q,hb,hQ,hd,ha,h,hs,H=>by cases c<;>cases hb
  | R,r,.ch _ _ _ _,c,S,β,ρ,a,w,k,Q,hb,hQ,hd,ha,h,hs,H=>by cases c<;>cases hb
  | R,r,.lp _ _ _ _ _,c,S,β,ρ,a,w,k,Q,hb,hQ,hd,ha,h,hs,H=>by cases c<;>cases hb
  | R,r,.jn _ _ _ _,c,S,β,ρ,a,w,k,Q,hb,hQ,hd,ha,h,hs,H=>by cases c<;>cases hb
end
end Gx

/- A range over a function. -/
namespace Gx
open Go Go.RowKit Gd
set_option linter.unusedVariables false
set_option linter.unusedSimpArgs false
structure It where
  f:FuncId
  cs:List Ty
  u:Ty
  fn:Tup cs→Option (List u.De)
def boxV (ok:Ok) (w:World):List DV→List Nat→Prop
  | [],[]=>True
  | v::l,b::bs=>(∃tid cs,w.heap[b]?=some (.cells cs.toArray tid (0,0))∧(rt v.1).rep ok w v.2 cs)∧boxV ok w l bs
  | _,_=>False
def ptrV (b:Nat):Value:=.pointer (some ⟨b,0,none⟩)
def okC (ok:Ok) (w A:World) (O:Nat→Prop) (bs:List Nat):Ok:=fun b o=>(ok b o∨w.heap.size≤b∨b∈bs)∧b<A.heap.size∧¬ O b
def ItOk (P:Program) (gl:List (Nat×Σ t:Ty,t.De)) (it:It):Prop :=
  ∀(ok:Ok) (w:World) (bs:List Nat) (x:Tup it.cs) (es:List it.u.De),(∀b o,ok b o→b<w.heap.size)→GlobOk gl ok w→it.fn x=some es→boxV ok w (toL it.cs x) bs→bs.Nodup→(∀b∈bs,∀o,¬ ok b o) →
      ∀(l:Nat) (J:Nat→(Nat→Prop)→World→Prop) (W:World) (O0:Nat→Prop),Below w.heap.size w W→(∀k O A B,J k O A→Below A.heap.size A B→J k O B)→(∀k O A,J k O A→∀b,O b→b<A.heap.size∧(∀o,¬ ok b o)∧b∉bs) →
        (∀k O A e v,J k O A→es[k]?=some e→isV (rt it.u) (okC ok w A O bs) A e v→∀m,YieldAt Fence.wide m P l #[v] A fun r B=>r=.returned (.bool true) ∧
          ∃O',J (k+1) O' B∧(∀b,O' b→O b∨A.heap.size≤b)∧A.heap.size≤B.heap.size∧∀b,b<A.heap.size→¬ O b→B.heap[b]?=A.heap[b]?)→J 0 O0 W →
        ∀m,CallsIn Fence.wide m P it.f (#[.func (.yield l) #[] #[]]++(bs.map ptrV).toArray) W fun e B=>(∃v,e=.returned v)∧∃O,J es.length O B
def capB (M:List (Nat×Ob)):AV→Option (List (Nat×DV))
  | .nil=>some []
  | .cons (.p id []) r=>match lookM M id,capB M r with
    | some (.var _ (.d t x)),some l=>some ((id,⟨t,x⟩)::l)
    | _,_=>none
  | _=>none
def foldO {σ α:Type} (f:σ→α→Option σ):List α→σ→Option σ
  | [],s=>some s
  | x::l,s=>(f s x).bind fun s'=>foldO f l s'
inductive AnR where
  | pre (a:An) (r:AnR)
  | inn (r:AnR) (b:An)
  | un (r:AnR)
  | rf (it:Nat) (ks ms:List Nat) (Γ:Shp) (a b:An)
def dropN (ids:List Nat) (M:List (Nat×Ob)):List (Nat×Ob):=M.filter fun q=>!memN ids q.1
section
variable (Y:TX) (K:List Con) (n N:Nat)
def rdR (Γ:Shp) {u:Ty} (S1:XS) (p:Nat) (aA aB:An) (A B:Code) (s:Γ.De) (e:u.De):Option Γ.De :=
  bif noTailM (S1.re (enc Γ s)).flat.mem then
    runI Y K n N aA A ((S1.re (enc Γ s)).put p [] (.d u e)) fun ex S2=>match ex with
      | .n=>bif noTailM S2.flat.mem then (runI Y K n N aB B S2 fun ex2 S3=>match ex2 with
        | .n=>S3.dec Γ
        | _=>none) else none
      | _=>none
  else none
def rfS (S:XS) (ids ks ms:List Nat):XS:=XS.ent { S with mem:=dropN ids S.mem } ks ms
def runR {R:Type} (its:List It):AnR→Code→XS→(Ex→XS→Option R)→Option R
  | .pre a r,.seq x y,S,k=>runI Y K n N a x S fun e S'=>match e with
    | .n=>runR its r y S' k
    | _=>none
  | .inn r b,.seq x y,S,k=>runR its r x S fun e S'=>match e with
    | .n=>bif noTailM S'.flat.mem then runI Y K n N b y S' k else none
    | _=>none
  | .un r,.block _ c,S,k=>runR its r c S fun e S'=>match e with
    | .n=>k .n S'
    | _=>none
  | .rf i ks ms Γ aA aB,.rangeFunc (.tmp g) ⟨[p]⟩ A B,S,k=>match its[i]?,S.ev [] (.tmp g) with
    | some it,some (.f gf caps)=>match capB S.mem caps with
      | some bl=>match ofL it.cs (bl.map Prod.snd) with
        | some x=>bif Nat.beq it.f gf&&(rb aA A&&rb aB B)&&((p::(codeDs A++codeDs B)).all fun d=>offF d (rfS S (bl.map Prod.fst) ks ms).fix)&&isNilL Γ.env&&okW n (rfS S (bl.map Prod.fst) ks ms) p&&nodupN (bl.map Prod.fst) &&
              noTailM (rfS S (bl.map Prod.fst) ks ms).flat.mem then
            (it.fn x).bind fun es=>match (rfS S (bl.map Prod.fst) ks ms).dec Γ with
              | some s0=>(foldO (rdR Y K n N Γ (u:=it.u) (rfS S (bl.map Prod.fst) ks ms) p aA aB A B) es s0).bind fun s=>k .n (XS.out { S with mem:=dropN (bl.map Prod.fst) S.mem } ks ms (enc Γ s))
              | none=>none else none
        | none=>none
      | none=>none
    | _,_=>none
  | _,_,_,_=>none
end
theorem pw_sym {α:Type} {R:α→α→Prop} (hs:∀a b,R a b→R b a):∀{l:List α},l.Pairwise R→∀x∈l,∀y∈l,x=y∨R x y
  | [],_,x,hx,_,_=>by cases hx
  | z::l,h,x,hx,y,hy=>by
    have h':=List.pairwise_cons.1 h
    rcases List.mem_cons.1 hx with h1 | h1
    · rcases List.mem_cons.1 hy with h2 | h2
      · exact .inl (h1.trans h2.symm)
      · exact .inr (h1▸h'.1 y h2)
    · rcases List.mem_cons.1 hy with h2 | h2
      · exact .inr (hs _ _ (h2▸h'.1 x h1))
      · exact pw_sym hs h'.2 x h1 y h2
theorem lookM_mem:∀{l:List (Nat×Ob)} {t:Nat} {o:Ob},lookM l t=some o→(t,o)∈l
  | q::l,t,o,h=>by
    simp only [lookM] at h
    cases hb:Nat.beq q.1 t with
    | true =>
      rw [hb] at h
      simp at h
      have:=Nat.eq_of_beq_eq_true hb
      subst h; subst this
      exact .head _
    | false =>
      rw [hb] at h
      exact .tail _ (lookM_mem h)
section
variable {P:Program} {Y:TX} {X:Cx} {n N:Nat} {K:List Con} {β β':Nat→Nat} {ρ ρ':Nat→Value} {a a':Act} {w w':World} {S:XS}
theorem Rel.filterM {env:List En} {M F:List (Nat×Ob)} {ids:List Nat} (h:Rel X β ρ ⟨env,M++F⟩ a w):Rel X β ρ ⟨env,dropN ids M++F⟩ a w:=by
  have hsub:(memO β ρ (dropN ids M++F)).Sublist (memO β ρ (M++F)):=List.Sublist.map _ (List.Sublist.append_right List.filter_sublist _)
  exact Sb.remake h (fun t' ht'=>.inl ⟨t',hsub.subset ht',fun _ hg=>hg,fun _ _ hc=>hc,(h.own t' (hsub.subset ht')).1⟩) (h.dOO.sublist hsub)
theorem capB_vals {ok:Ok} {M:List (Nat×Ob)}:∀{caps:AV} {vs:List Value} {bl:List (Nat×DV)},cr β ρ ok w true caps vs→capB M caps=some bl→vs=(bl.map fun q=>β q.1).map ptrV
  | .nil,vs,bl,h,hb=>by
    simp only [capB,Option.some.injEq] at hb
    subst hb
    exact h
  | .cons x r,vs,bl,h,hb=>by
    obtain ⟨c1,us,rfl,h1,h2⟩:=h
    unfold capB at hb
    split at hb
    · rename_i e; cases e
    · rename_i id r' e
      injection e with e1 e2
      subst e1; subst e2
      split at hb
      · rename_i tid t x l q1 q2
        simp only [Option.some.injEq] at hb
        subst hb
        have h1':c1=_:=h1
        subst h1'
        rw [capB_vals h2 q2]
        rfl
      · cases hb
    · cases hb
  | .d _ _,_,_,_,hb=>by cases hb
  | .p _ _,_,_,_,hb=>by cases hb
  | .e _ _,_,_,_,hb=>by cases hb
  | .s _,_,_,_,hb=>by cases hb
  | .m _,_,_,_,hb=>by cases hb
  | .w _ _ _,_,_,_,hb=>by cases hb
  | .a _ _,_,_,_,hb=>by cases hb
  | .z,_,_,_,hb=>by cases hb
  | .ns,_,_,_,hb=>by cases hb
  | .np,_,_,_,hb=>by cases hb
  | .nm,_,_,_,hb=>by cases hb
  | .nf,_,_,_,hb=>by cases hb
  | .f _ _,_,_,_,hb=>by cases hb
  | .ag _,_,_,_,hb=>by cases hb
  | .tp _,_,_,_,hb=>by cases hb
theorem capB_look {M:List (Nat×Ob)}:∀{caps:AV} {bl:List (Nat×DV)},capB M caps=some bl→∀q∈bl,∃tid,lookM M q.1=some (.var tid (.d q.2.1 q.2.2))
  | .nil,bl,hb=>by
    simp only [capB,Option.some.injEq] at hb
    subst hb; simp
  | .cons x r,bl,hb=>by
    unfold capB at hb
    split at hb
    · rename_i e; cases e
    · rename_i id r' e
      injection e with e1 e2
      subst e1; subst e2
      split at hb
      · rename_i tid t x l q1 q2
        simp only [Option.some.injEq] at hb
        subst hb
        intro q hq
        rcases List.mem_cons.1 hq with rfl | hq
        · exact ⟨tid,q1⟩
        · exact capB_look q2 q hq
      · cases hb
    · cases hb
  | .d _ _,_,hb=>by cases hb
  | .p _ _,_,hb=>by cases hb
  | .e _ _,_,hb=>by cases hb
  | .s _,_,hb=>by cases hb
  | .m _,_,hb=>by cases hb
  | .w _ _ _,_,hb=>by cases hb
  | .a _ _,_,hb=>by cases hb
  | .z,_,hb=>by cases hb
  | .ns,_,hb=>by cases hb
  | .np,_,hb=>by cases hb
  | .nm,_,hb=>by cases hb
  | .nf,_,hb=>by cases hb
  | .f _ _,_,hb=>by cases hb
  | .ag _,_,hb=>by cases hb
  | .tp _,_,hb=>by cases hb
theorem boxV_of {ok:Ok}:∀{bl:List (Nat×DV)},(∀q∈bl,∃tid cs,w.heap[β q.1]?=some (.cells cs.toArray tid (0,0))∧(rt q.2.1).rep ok w q.2.2 cs)→boxV ok w (bl.map Prod.snd) (bl.map fun q=>β q.1)
  | [],_=>trivial
  | q::bl,h=>⟨h q (.head _),boxV_of fun x hx=>h x (.tail _ hx)⟩
theorem rf_ok (hT:TabOk P Y.T) (hmix:P.follows .mixedOrders=true) (hK:KsX P Y X K) (hX:X.n=n) (hr:X.res=[]) (hpin:X.pin=none) (hdf:X.dfs=[]) {it:It} (hit:ItOk P Y.gl it) (hrun:Runs P it.f)
    {g p m:Nat} {A B:Code} {ks ms:List Nat} {Γ:Shp} {aA aB:An} {caps:AV} {bl:List (Nat×DV)} {x:Tup it.cs} {es:List it.u.De} {s0 sE:Γ.De} {Q:Exit→Act→World→Prop}
    (h:Rel X β ρ S.flat a w) (hg:S.ev [] (.tmp g)=some (.f it.f caps)) (hbl:capB S.mem caps=some bl) (hx:ofL it.cs (bl.map Prod.snd)=some x) (hbA:rb aA A=true) (hbB:rb aB B=true)
    (hoff:∀d∈p::(codeDs A++codeDs B),offF d (rfS S (bl.map Prod.fst) ks ms).fix=true) (hΓ:Γ.env=[]) (hp:okW n (rfS S (bl.map Prod.fst) ks ms) p=true) (hV:noTailM (rfS S (bl.map Prod.fst) ks ms).flat.mem=true) (hndB:nodupN (bl.map Prod.fst)=true)
    (hes:it.fn x=some es) (hs0:(rfS S (bl.map Prod.fst) ks ms).dec Γ=some s0) (hfold:foldO (rdR Y K n N Γ (u:=it.u) (rfS S (bl.map Prod.fst) ks ms) p aA aB A B) es s0=some sE)
    (H:∀(β':Nat→Nat) (ρ':Nat→Value) (w':World) (D:Nat),agP S.prot β β' ρ ρ'→Rel { X with dfs:=[⟨.collected D,#[]⟩] } β' ρ' (XS.out { S with mem:=dropN (bl.map Prod.fst) S.mem } ks ms (enc Γ sE)).flat { a with defers:=[⟨.collected D,#[]⟩] } w' →
      w'.heap[D]?=some (.deferred (some []))→X.w.heap.size≤D→Q .normal { a with defers:=[⟨.collected D,#[]⟩] } w') :
    (Code.rangeFunc (.tmp g) ⟨[p]⟩ A B).wpIn Fence.wide m P Q a w:=by
  obtain ⟨S1,hS1⟩:∃S1,S1=rfS S (bl.map Prod.fst) ks ms:=⟨_,rfl⟩
  rw [←hS1] at hoff hp hV hs0 hfold
  have hflat0:Rel X β ρ (XS.flat { S with mem:=dropN (bl.map Prod.fst) S.mem }) a w:=Rel.filterM (M:=S.mem) (F:=S.fixM) h
  have h1:Rel X β ρ S1.flat a w:=by rw [hS1]; exact hflat0.ent ks ms
  have hpm:S1.flat.mem.Perm (dropN (bl.map Prod.fst) S.mem++S.fixM):=by
    rw [hS1]
    simp only [XS.flat,rfS,XS.ent]
    rw [←List.append_assoc]
    exact (List.perm_append_comm.trans (splitM_perm ms _)).append_right _
  have hprot:S1.prot=S.prot:=by rw [hS1]; rfl
  have hsubM:∀q∈S1.flat.mem,q∈S.flat.mem∧(q∈dropN (bl.map Prod.fst) S.mem∨q∈S.fixM):=fun q hq=>by
    rcases List.mem_append.1 (hpm.subset hq) with hq | hq
    · exact ⟨List.mem_append_left _ (List.mem_filter.1 hq).1,.inl hq⟩
    · exact ⟨List.mem_append_right _ hq,.inr hq⟩
  obtain ⟨cs,hev,us,hus,hcaps⟩:=h.ev (holdsC_nil a) hg
  have hev':a.eval (.tmp g)=.func (.func it.f) #[] us.toArray:=by rw [hev,hus]; rfl
  have husv:=capB_vals hcaps hbl
  have hlook:=capB_look hbl
  have hokW:∀b o,okR X β ρ S.flat.mem w b o→okR X β ρ S1.flat.mem w b o:=fun b o ⟨q1,q2,q3,q4⟩=>⟨q1,q2,q3,fun t ht=>by
    obtain ⟨q,hq,rfl⟩:=List.mem_map.1 ht
    exact q4 _ (List.mem_map.2 ⟨q,(hsubM q hq).1,rfl⟩)⟩
  have hbox:boxV (okR X β ρ S.flat.mem w) w (bl.map Prod.snd) (bl.map fun q=>β q.1):=boxV_of fun q hq=>by
    obtain ⟨tid,hl⟩:=hlook q hq
    obtain ⟨⟨cs,c1,c2⟩,_⟩:=h.ob (lookM_append hl:lookM S.flat.mem q.1=_)
    exact ⟨tid,cs,c1,c2⟩
  have hbs:∀b∈bl.map (fun q=>β q.1),b<w.heap.size∧b∉blksL w.heap.size (memO β ρ S1.flat.mem):=fun b hb=>by
    obtain ⟨q,hq,rfl⟩:=List.mem_map.1 hb
    obtain ⟨tid,hl⟩:=hlook q hq
    obtain ⟨⟨cs,c1,c2⟩,_⟩:=h.ob (lookM_append hl:lookM S.flat.mem q.1=_)
    refine ⟨heap_lt c1,fun hbl2=>?_⟩
    obtain ⟨_,t,ht,htb⟩:=mem_blksL.1 hbl2
    obtain ⟨z,hz,rfl⟩:=List.mem_map.1 ht
    obtain ⟨hz1,hz2⟩:=hsubM z hz
    have hpw:S.flat.mem.Pairwise fun s t=>∀g,(tlOf β ρ s.1 s.2).blks g→¬ (tlOf β ρ t.1 t.2).blks g:=List.pairwise_map.1 h.dOO
    have hm:=lookM_mem hl
    rcases pw_sym (fun a b hab g hg hg2=>hab g hg2 hg) hpw z hz1 (q.1,.var tid (.d q.2.1 q.2.2)) (List.mem_append_left _ hm) with e | e
    · subst e
      rcases hz2 with hz2 | hz2
      · have:=(List.mem_filter.1 hz2).2
        rw [show memN (bl.map Prod.fst) q.1=true from memN_of (List.mem_map.2 ⟨q,hq,rfl⟩)] at this
        cases this
      ·
        have hpw2:=List.pairwise_append.1 hpw
        exact hpw2.2.2 _ hm _ hz2 (β q.1) rfl rfl
    · exact e (β q.1) htb rfl
  have hoklt:∀b o,okR X β ρ S.flat.mem w b o→b<w.heap.size:=fun b o hbo=>hbo.2.1
  have hxl:=ofL_ok hx
  have hpw0:S.flat.mem.Pairwise fun s t=>∀g,(tlOf β ρ s.1 s.2).blks g→¬ (tlOf β ρ t.1 t.2).blks g:=List.pairwise_map.1 h.dOO
  have hnd:(bl.map fun q=>β q.1).Nodup:=by
    have key:∀(l:List (Nat×DV)),(∀q∈l,q∈bl)→nodupN (l.map Prod.fst)=true→(l.map fun q=>β q.1).Nodup:=by
      intro l
      induction l with
      | nil=>intro _ _; exact List.Pairwise.nil
      | cons q l ih =>
        intro hs hn
        simp only [List.map_cons,nodupN,Bool.and_eq_true,Bool.not_eq_true'] at hn
        refine List.pairwise_cons.2 ⟨fun b hb e=>?_,ih (fun z hz=>hs z (.tail _ hz)) hn.2⟩
        obtain ⟨z,hz,hzb⟩:=List.mem_map.1 hb
        obtain ⟨t1,l1⟩:=hlook q (hs q (.head _))
        obtain ⟨t2,l2⟩:=hlook z (hs z (.tail _ hz))
        rcases pw_sym (fun a b hab g hg hg2=>hab g hg2 hg) hpw0 _ (List.mem_append_left _ (lookM_mem l1)) _ (List.mem_append_left _ (lookM_mem l2)) with e2 | e2
        · have e3:q.1=z.1:=by injection e2
          have:memN (l.map Prod.fst) q.1=true:=memN_of (List.mem_map.2 ⟨z,hz,e3.symm⟩)
          rw [hn.1] at this; cases this
        · exact e2 (β q.1) rfl (e.trans hzb.symm)
    exact key bl (fun _ hq=>hq) hndB
  have hbno:∀b∈bl.map (fun q=>β q.1),∀o,¬ okR X β ρ S.flat.mem w b o:=fun b hb o hbo=>by
    obtain ⟨q,hq,rfl⟩:=List.mem_map.1 hb
    obtain ⟨tid,hl⟩:=hlook q hq
    exact hbo.2.2.2 _ (List.mem_map.2 ⟨_,List.mem_append_left _ (lookM_mem hl),rfl⟩) rfl
  have hbok:∀b∈bl.map (fun q=>β q.1),∀o,okR X β ρ S1.flat.mem w b o:=fun b hb o=>by
    have hb':=hb
    obtain ⟨q,hq,rfl⟩:=List.mem_map.1 hb
    obtain ⟨tid,hl⟩:=hlook q hq
    obtain ⟨_,hmine⟩:=h.ob (lookM_append hl:lookM S.flat.mem q.1=_)
    exact ⟨X.mine_ok (hmine _ rfl) o,(hbs _ hb').1,by simp,fun t ht hc=>(hbs _ hb').2 (mem_blksL.2 ⟨(hbs _ hb').1,t,ht,t.cb hc⟩)⟩
  have hGw:GlobOk Y.gl (okR X β ρ S.flat.mem w) w:=glob_here h hK.2
  have hcall:=hit _ w _ x es hoklt hGw hes (by rw [hxl]; exact hbox) hnd hbno
  obtain ⟨hR',hG'⟩:=rebase hK.2 h1 hV
  obtain ⟨X',hX'⟩:∃X',X'=reX X β ρ S1.flat.mem w:=⟨_,rfl⟩
  rw [←hX'] at hR' hG'
  have hXn:X'.n=n:=by rw [hX']; exact hX
  have hXr:X'.res=[]:=by rw [hX']; rfl
  have hXp:X'.pin=none:=by rw [hX']; rfl
  have hXd:X'.dfs=[]:=by rw [hX']; exact hdf
  have hXw:X'.w=w:=by rw [hX']; rfl
  have hXl:X'.lent=blksL w.heap.size (memO β ρ S1.flat.mem):=by rw [hX']; rfl
  have hK':KsX P Y X' K:=⟨hK.1,hG'⟩
  obtain ⟨β0,ρ0,hag0,hR0⟩:=dec_re (S0:=S1) hR' ⟨rfl,rfl,rfl⟩ hs0
  obtain ⟨f,hf⟩:∃f,f=rdR Y K n N Γ (u:=it.u) S1 p aA aB A B:=⟨_,rfl⟩
  rw [←hf] at hfold
  have hadf:a.defers=[]:=h.df.trans hdf
  refine wpIn_rangeFunc fun fn hfn=>?_
  obtain ⟨rec,hrec⟩:∃rec:LoopState→Option Code→Loop,rec=fun st pe=>{ state:=st,pending:=pe,fn,tmps:=a.tmps,params:=⟨[p]⟩,assign:=A,body:=B,defers:=w.heap.size }:=⟨_,rfl⟩
  obtain ⟨W1,hW1⟩:∃W1,(w.alloc (.deferred (some []))).alloc (.loop (rec .ready none))=W1:=⟨_,rfl⟩
  have hL1:W1.heap[w.heap.size+1]?=some (.loop (rec .ready none)):=by
    rw [←hW1]; have:=World.alloc_heap_new (w.alloc (.deferred (some []))) (.loop (rec .ready none)); rwa [World.size_alloc] at this
  have hD1:W1.heap[w.heap.size]?=some (.deferred (some [])):=by
    rw [←hW1]; exact (Below.heap_alloc _ _ _ (by simp)).trans (World.alloc_heap_new w _)
  have hb1:Below w.heap.size w W1:=by
    rw [←hW1]; exact (((Below.refl _ w).alloc (Nat.le_refl _) _).alloc (by simp) _)
  obtain ⟨J,hJ⟩:∃J:Nat→(Nat→Prop)→World→Prop,J=fun k O W=>∃s β' ρ',foldO f (es.drop k) s=some sE∧agP S1.prot β β' ρ ρ'∧Rel X' β' ρ' (S1.re (enc Γ s)).flat a W ∧
    W.heap[w.heap.size+1]?=some (.loop (rec .ready none))∧W.heap[w.heap.size]?=some (.deferred (some []))∧O=fun b=>∃t∈memO β' ρ' (S1.re (enc Γ s)).flat.mem,t.blks b:=⟨_,rfl⟩
  refine ⟨w.heap.size+1,[{ target:=.collected w.heap.size,args:=#[] }],W1,{ target:=.fn (.func it.f) us.toArray,args:=#[.func (.yield (w.heap.size+1)) #[] #[]] },W1,it.f,
    #[.func (.yield (w.heap.size+1)) #[] #[]]++us.toArray,W1,?_,?_,fun _ _=>trivial,?_,(fun h=>by cases h),?_⟩
  · rw [←hW1,hrec]; exact run_enterLoop_outer _ _ _ _ _
  · simp only [resolve,hev']
    simp [go_sem]
  · simp [invoke,go_sem,run_callFunc hrun]
  have hown:∀k O A,J k O A→∀b,O b→b<A.heap.size∧(∀o,¬ okR X β ρ S.flat.mem w b o)∧b∉bl.map (fun q=>β q.1):=fun k O A hJk b hOb=>by
    rw [hJ] at hJk
    obtain ⟨s,β',ρ',_,_,hRk,_,_,rfl⟩:=hJk
    obtain ⟨t,ht,htb⟩:=hOb
    have hm:=(hRk.own t ht).2 b htb
    refine ⟨hRk.olt ht htb,fun o hbo=>?_,fun hb=>?_⟩
    · rcases hm with q | q
      · rw [hXw] at q; have:=hbo.2.1; omega
      · rw [hXl] at q
        obtain ⟨_,t2,ht2,htb2⟩:=mem_blksL.1 q
        obtain ⟨z,hz,rfl⟩:=List.mem_map.1 ht2
        have hcv:=covM hV _ ht2 b o htb2
        exact hbo.2.2.2 _ (List.mem_map.2 ⟨z,(hsubM z hz).1,rfl⟩) hcv
    · rcases hm with q | q
      · rw [hXw] at q; have:=(hbs b hb).1; omega
      · rw [hXl] at q; exact (hbs b hb).2 q
  have hcall1:=hcall (w.heap.size+1) J W1 (fun b=>∃t∈memO β0 ρ0 (S1.re (enc Γ s0)).flat.mem,t.blks b) hb1 (fun k O A' B' hA hAB=>by
    rw [hJ] at hA ⊢
    obtain ⟨s,β',ρ',j1,j2,j3,j4,j5,j6⟩:=hA
    exact ⟨s,β',ρ',j1,j2,Sb.below j3 hAB,(hAB.block _ (heap_lt j4)).trans j4,(hAB.block _ (heap_lt j5)).trans j5,j6⟩) hown ?round (by
    rw [hJ]
    exact ⟨s0,β0,ρ0,hfold,hag0,Sb.below hR0 hb1,hL1,hD1,rfl⟩) (m - 1)
  case round =>
    intro k O W e v hJk he hv m1
    rw [hJ] at hJk
    obtain ⟨s,β',ρ',j1,j2,j3,j4,j5,hO⟩:=hJk
    have hkl:k<es.length:=(List.getElem?_eq_some_iff.1 he).1
    rw [List.drop_eq_getElem_cons hkl] at j1
    have hek:es[k]=e:=by rw [List.getElem?_eq_getElem hkl] at he; exact Option.some.inj he
    rw [hek] at j1
    obtain ⟨s',hs',j1'⟩:=bindE j1
    have hs'0:=hs'
    rw [hf] at hs'
    unfold rdR at hs'
    obtain ⟨hV1,hs'⟩:=bvT hs'
    have hy:=run_yield (P:=P) (args:=#[v]) j4 (by rw [hrec]; rfl)
    rw [hrec] at hy
    refine ⟨fn,_,A,B,hy,roundIn_of_wpIn hfn ?_⟩
    have hact:({ tmps:=((⟨[p]⟩:Array Tmp).zip #[v]).foldl (fun tmps (t,a)=>tmps.setIfInBounds t a) a.tmps,defers:=[] }:Act)=a.put (some p) v:=by
      simp [Act.put,←hadf]
    rw [hact]
    obtain ⟨hpd,hpo⟩:=okW_ok (S:=S1.re (enc Γ s)) hp hXn hXr
    have hval:isV (rt it.u) (okR X' β' ρ' (S1.re (enc Γ s)).flat.mem W) W e v:=by
      refine hv.weak fun b o hbo=>?_
      refine ⟨?_,hbo.2.1,by simp,fun t ht hc=>hbo.2.2 (by rw [hO]; exact ⟨t,ht,t.cb hc⟩)⟩
      rcases hbo.1 with q | q | q
      · exact .inl (by rw [hX']; exact .inl (hokW b o q))
      · exact .inr (by rw [hXw]; exact q)
      · exact .inl (by rw [hX']; exact .inl (hbok b q o))
    obtain ⟨c,hc1,hc2⟩:=cr_of_isV hval
    have hput:Rel X' β' ρ' ((S1.re (enc Γ s)).put p [] (.d it.u e)).flat (a.put (some p) v) W:=by
      rw [put_flat hpo,hc2]
      exact j3.put0 hpd hc1
    have hVp:noTailM ((S1.re (enc Γ s)).put p [] (.d it.u e)).flat.mem=true:=hV1
    obtain ⟨hR2,hG2⟩:=rebase hG' hput hVp
    have hl4:W.heap.size>w.heap.size+1:=heap_lt j4
    have hnoL:∀{X0:Cx} {β1:Nat→Nat} {ρ1:Nat→Value} {S2:St} {a2:Act} {W2:World},Rel X0 β1 ρ1 S2 a2 W2→(∀r,W2.heap[w.heap.size+1]?=some (.loop r)→w.heap.size+1∉blksL W2.heap.size (memO β1 ρ1 S2.mem))∧(∀r,W2.heap[w.heap.size]?=some (.deferred r)→w.heap.size∉blksL W2.heap.size (memO β1 ρ1 S2.mem)):=by
      intro X0 β1 ρ1 S2 a2 W2 hR
      refine ⟨fun r hl hm=>?_,fun r hl hm=>?_⟩
      · obtain ⟨_,t,ht,htb⟩:=mem_blksL.1 hm
        exact hR.notOwn hl rfl (fun _ _=>by simp) t ht htb
      · obtain ⟨_,t,ht,htb⟩:=mem_blksL.1 hm
        exact hR.notOwn hl rfl (fun _ _=>by simp) t ht htb
    have hsame0:SameOn (p::(codeDs A++codeDs B)) a (a.put (some p) v):=SameOn.put (fun t _=>rfl) (fun d hd=>by injection hd with hd; subst hd; exact .head _) v
    refine runB_ok (X:=reX X' β' ρ' ((S1.re (enc Γ s)).put p [] (.d it.u e)).flat.mem W) (ds:=p::(codeDs A++codeDs B)) (a0:=a) hT hmix ⟨hK.1,hG2⟩ hXn rfl rfl aA hbA (by rintro ⟨_,_,hh⟩; exact hh) (fun d hd=>.tail _ (List.mem_append_left _ hd)) hsame0 hR2 hs' fun ex β2 ρ2 S2 a2 W2 q1 q2 q3 q4=>?_
    cases ex with
    | x i=>cases q1
    | r=>cases q1
    | n =>
      simp only at q1
      obtain ⟨hV2,q1⟩:=bvT q1
      have hl2:W2.heap[w.heap.size+1]?=some (.loop (rec .ready none)):=(q3.bel.block _ hl4 ((hnoL hput).1 _ j4)).trans j4
      have hd2:W2.heap[w.heap.size]?=some (.deferred (some [])):=(q3.bel.block _ (by show w.heap.size<W.heap.size; omega) ((hnoL hput).2 _ j5)).trans j5
      have q3':=recomp hput hVp hXr hXp q3
      refine ⟨_,run_beginRound hl2 (by rw [hrec]),?_⟩
      have q5:Rel X' β2 ρ2 S2.flat a2 (W2.putObj (w.heap.size+1) (.loop { rec .ready none with state:=.busy })):=q3'.turn (by rw [hXw]; omega) hl2 rfl (fun _ _=>by simp) rfl
      have hl3:(W2.putObj (w.heap.size+1) (.loop { rec .ready none with state:=.busy })).heap[w.heap.size+1]?=some (.loop { rec .ready none with state:=.busy }):=World.putObj_heap_same (heap_lt hl2)
      have hd3:(W2.putObj (w.heap.size+1) (.loop { rec .ready none with state:=.busy })).heap[w.heap.size]?=some (.deferred (some [])):=(World.putObj_heap_other (by omega)).trans hd2
      obtain ⟨W3,hW3⟩:∃W3,W3=W2.putObj (w.heap.size+1) (.loop { rec .ready none with state:=.busy }):=⟨_,rfl⟩
      rw [←hW3] at q5 hl3 hd3 ⊢
      obtain ⟨hR3,hG3⟩:=rebase hG' q5 hV2
      refine runB_ok (X:=reX X' β2 ρ2 S2.flat.mem W3) (ds:=p::(codeDs A++codeDs B)) (a0:=a) hT hmix ⟨hK.1,hG3⟩ hXn rfl rfl aB hbB (by rintro ⟨_,_,hh⟩; exact hh) (fun d hd=>.tail _ (List.mem_append_right _ hd)) q4 hR3 q1 fun ex β3 ρ3 S3 a3 W4 r1 r2 r3 r4=>?_
      cases ex with
      | x i=>cases r1
      | r=>cases r1
      | n =>
        simp only at r1
        have hl4':W4.heap[w.heap.size+1]?=some (.loop { rec .ready none with state:=.busy }):=(r3.bel.block _ (heap_lt hl3) ((hnoL q5).1 _ hl3)).trans hl3
        have hd4:W4.heap[w.heap.size]?=some (.deferred (some [])):=(r3.bel.block _ (heap_lt hd3) ((hnoL q5).2 _ hd3)).trans hd3
        have hk3:S3.fix=S1.fix∧S3.fixM=S1.fixM∧S3.prot=S1.prot:=⟨r2.fix.trans q2.fix,r2.fixM.trans q2.fixM,r2.prot.trans q2.prot⟩
        obtain ⟨β4,ρ4,hag4,hR40⟩:=dec_re (S0:=S1) r3 hk3 r1
        have hR4:=recomp q5 hV2 hXr hXp hR40
        have hR5:Rel X' β4 ρ4 (S1.re (enc Γ s')).flat a W4:=by
          have henv:(S1.re (enc Γ s')).flat.env=S1.fix:=by
            have:(enc Γ s').env=[]:=by
              have h0:=encEnv_len (l:=Γ.env) (vs:=toL Γ.tys s')
              rw [hΓ] at h0
              unfold enc
              rw [hΓ]
              rfl
            simp only [XS.flat,XS.re,this,List.nil_append]
          have hsz:a.tmps.size=a3.tmps.size:=j3.sz.trans hR4.sz.symm
          refine Rel.act (S:=(S1.re (enc Γ s')).flat) (env':=(S1.re (enc Γ s')).flat.env) hR4 hsz (by rw [hadf,hR4.df,hXd]) (by rw [hXr]; simp) fun e0 he0=>?_
          have hen:=hR4.en he0
          rw [henv] at he0
          have hsm:∀t,t∉p::(codeDs A++codeDs B)→a.tmps[t]?=a3.tmps[t]?:=fun t ht=>(r4 t ht).symm
          have hoffd:e0.t∉p::(codeDs A++codeDs B)∧∀c∈e0.cs,c.1∉p::(codeDs A++codeDs B):=⟨fun hm=>(offF_rem (hoff _ hm) e0 he0).1 rfl,fun c hc hm=>(offF_rem (hoff _ hm) e0 he0).2 c hc rfl⟩
          have hcc:holdsC a e0.cs↔holdsC a3 e0.cs:=⟨fun hc c hm=>by rw [←hsm _ (hoffd.2 c hm)]; exact hc c hm,fun hc c hm=>by rw [hsm _ (hoffd.2 c hm)]; exact hc c hm⟩
          have hrd:rd a e0.t=rd a3 e0.t:=by unfold rd; rw [hsm _ hoffd.1]
          refine ⟨fun hc=>?_,?_⟩
          · obtain ⟨cs,z1,z2⟩:=hen.1 (hcc.1 hc)
            exact ⟨cs,by rw [hrd]; exact z1,z2⟩
          · rw [hcc,hrd]; exact hen.2
        refine ⟨_,_,run_endRound none hl4',rfl,?_⟩
        have hre:({ ({ rec .ready none with state:=.busy }:Loop) with state:=if (none:Option Code).isNone then .ready else .done,pending:=none }:Loop)=rec .ready none:=by rw [hrec]; rfl
        rw [hre]
        have ag2:agP S1.prot β' β2 ρ' ρ2:=q2.ag
        have ag3:agP S1.prot β2 β3 ρ2 ρ3:=by have:=r2.ag; rw [show S2.prot=S1.prot from q2.prot] at this; exact this
        have own2:∀b,b∈blksL W3.heap.size (memO β2 ρ2 S2.flat.mem)→O b∨W.heap.size≤b:=fun b hb=>by
          obtain ⟨_,t,ht,htb⟩:=mem_blksL.1 hb
          rcases (q3.own t ht).2 b htb with z | z
          · exact .inr z
          · obtain ⟨_,t2,ht2,htb2⟩:=mem_blksL.1 z
            exact .inl (by rw [hO]; exact ⟨t2,ht2,htb2⟩)
        have hsz2:W.heap.size≤W2.heap.size:=q3.bel.size
        have hsz3:W.heap.size≤W3.heap.size:=by rw [hW3,World.putObj_size]; exact hsz2
        have keep:∀b,b<W.heap.size→¬ O b→b≠w.heap.size+1→W4.heap[b]?=W.heap[b]?:=fun b hb hOb hbl=>by
          have e1:W4.heap[b]?=W3.heap[b]?:=r3.bel.block b (show b<W3.heap.size by omega) fun hm=>by
            rcases own2 b hm with z | z
            · exact hOb z
            · omega
          have e2:W3.heap[b]?=W2.heap[b]?:=by rw [hW3]; exact World.putObj_heap_other hbl
          have e3:W2.heap[b]?=W.heap[b]?:=q3.bel.block b hb fun hm=>by
            obtain ⟨_,t2,ht2,htb2⟩:=mem_blksL.1 hm
            exact hOb (by rw [hO]; exact ⟨t2,ht2,htb2⟩)
          rw [e1,e2,e3]
        refine ⟨fun b=>∃t∈memO β4 ρ4 (S1.re (enc Γ s')).flat.mem,t.blks b,by
          rw [hJ]
          exact ⟨s',β4,ρ4,j1',((j2.trans ag2).trans ag3).trans hag4,hR5.turn (by rw [hXw]; omega) hl4' rfl (fun _ _=>by simp) rfl,World.putObj_heap_same (heap_lt hl4'),(World.putObj_heap_other (by omega)).trans hd4,rfl⟩,fun b hb=>?_,?_,fun b hb hOb=>?_⟩
        · obtain ⟨t,ht,htb⟩:=hb
          rcases (hR40.own t ht).2 b htb with z | z
          · exact .inr (Nat.le_trans hsz3 z)
          · exact own2 b z
        · have:=r3.bel.size
          simp only [World.putObj_size]
          exact Nat.le_trans hsz3 this
        · by_cases hbl:b=w.heap.size+1
          · subst hbl
            rw [World.putObj_heap_same (heap_lt hl4'),j4]
          · rw [World.putObj_heap_other hbl]
            exact keep b hb hOb hbl
  rw [husv]
  refine hcall1.mono ?_
  rintro e W2 ⟨⟨v,rfl⟩,O,hJe⟩
  rw [hJ] at hJe
  obtain ⟨s,β',ρ',j1,j2,j3,j4,j5,_⟩:=hJe
  rw [List.drop_length] at j1
  have hsE:s=sE:=Option.some.inj j1
  subst hsE
  refine ⟨none,_,by have:=run_endLoop (P:=P) j4 (by rw [hrec]; simp); rw [hrec] at this; exact this,?_⟩
  have j6:=j3.turn (o':=.loop { rec .ready none with state:=.exhausted }) (by rw [hXw]; omega) j4 rfl (fun _ _=>by simp) rfl
  rw [hX'] at j6
  have j7:=recomp h1 hV hr hpin j6
  have j8:=j7.withD [⟨.collected w.heap.size,#[]⟩]
  have e1:([{ target:=.collected w.heap.size,args:=#[] }]++a.defers:List Deferred)=[⟨.collected w.heap.size,#[]⟩]:=by rw [hadf]; rfl
  rw [e1]
  rw [hrec] at j8
  refine H β' ρ' _ w.heap.size (by rw [←hprot]; exact j2) ?_ ((World.putObj_heap_other (by omega)).trans j5) h.bel.size
  rw [out_flat]
  rw [hS1] at j8
  exact j8
end
end Gx
