/- A region whose order is drawn, by an invariant alone. -/
import Derived.Test.YtfkpgpibpnghiaaGreatXMo
import Derived.Test.YtfkpgpibpnghiaaGreatXH
import Derived.Maps.RangeRun
import Derived.Scope
namespace Gx
open Go Go.RowKit Gd
set_option linter.unusedVariables false
set_option linter.unusedSimpArgs false
section
variable {P:Program} {a:Act} {w:World}
theorem Q4m(I:(Nat→Bool)→Act→World→Prop){id:Nat}{l:List Oper}{Q:Exit→Act→World→Prop}(hm:P.follows .mixedOrders=true)(p:Nat)(hIE:∀(E E':Nat→Bool) (a:Act) (w:World),(∀i,i<p→E i=E' i)→I E a w→I E' a w)
  (pf:Nat.ble p l.length=true) (r0:Gd.backB l=true) (ye:Jnv l p=true) (h0:I (fun _=>false) a w.drew)
  (uz:∀(E:Nat→Bool) (i:Nat) (o:Oper) (a:Act) (w:World) (Q':Exit→Act→World→Prop),i<p→l[i]?=some o→Qon l (fun j=>E j=true)→E i=false→(∀e∈o.after.toList,Region.binds .any e=true→E e.on=true)→I E a w →
   (∀a' w',I (fun j=>j==i||E j) a' w'→Q' .normal a' w')→wpList P ⟨l⟩ Q' [o] a w)
  (hend:∀a' w',I (fun _=>true) a' w'→wpList P ⟨l⟩ Q (l.drop p) a' w') :
  (Code.region id ⟨l⟩ true).wp P Q a w:=by
 refine wp_region_any hm ?_
 have mq:=QK pf
 let E (listed:Array Bool):Nat→Prop:=fun i=>listed.getD i false=true
 let J1 (listed:Array Bool) (a:Act) (w:World):Prop:=(∀k,p≤k→¬ E listed k)∧I (fun i=>listed.getD i false) a w
 let J (listed:Array Bool) (a:Act) (w:World):Prop:=listed.size=l.length∧Qon l (E listed) ∧
  (J1 listed a w∨(∃k,p<k∧(∀i,i<l.length→(E listed i↔i<k))∧wpList P ⟨l⟩ Q (l.drop k) a w))
 have wu:∀(listed:Array Bool) (i j:Nat),listed.size=l.length→i<l.length→(E (listed.setIfInBounds i true) j↔(j=i∨E listed j)):=by
  intro listed i j hs hi
  simp only[E,QN,Array.getElem?_setIfInBounds,hs]
  grind
 have hsetB:∀(listed:Array Bool) (i j:Nat),listed.size=l.length→i<l.length→(listed.setIfInBounds i true).getD j false=(j==i||listed.getD j false):=by
  grind
 have ni:∀listed a w,J1 listed a w→(∀j,j<p→E listed j)→wpList P ⟨l⟩ Q (l.drop p) a w:=by
  grind
 have nq:∀listed a w,J listed a w→(∀i,i<l.length→E listed i)→Q .normal a w:=by
  rintro listed a w ⟨hs,hc,h1 | ⟨k,hk,hE,hw⟩⟩ ze
  ·have rj:p=l.length:=by
    rcases Nat.lt_or_ge p l.length with hlt | ti
    ·grind
    ·omega
   have:=ni listed a w h1 fun i hi=>ze i (by omega)
   rw[rj,XA]at this
   exact this
  ·have jy:l.length≤k:=by
    grind
   rw[JC jy]at hw
   exact hw
 have step1:∀(listed:Array Bool) (a:Act) (w:World) (i:Nat) (o:Oper) (Q':Exit→Act→World→Prop),listed.size=l.length→Qon l (E listed)→J1 listed a w→i<p→l[i]?=some o→¬ E listed i →
   (∀e∈o.after.toList,Region.binds .any e=true→listed.getD e.on false=true)→(∀a' w',J1 (listed.setIfInBounds i true) a' w'→Q' .normal a' w')→wpList P ⟨l⟩ Q' [o] a w:=by
  grind
 have main:∀(fuel:Nat) (listed:Array Bool) (a:Act) (w:World),J listed a w→((List.range l.length).filter fun i=>!listed.getD i false).length≤fuel→wpAny P .any ⟨l⟩ Q fuel listed a w:=by
  intro fuel
  induction fuel with
  | zero =>
   intro listed a w hJ hle
   have ze:∀i,i<l.length→E listed i:=by
    intro i hi
    cases hl:listed.getD i false with
    | true=>exact hl
    | false =>
     have:i∈(List.range l.length).filter fun i=>!listed.getD i false:=QI.2 ⟨JV.2 hi,by rw[hl]; rfl⟩
     have ur:=QE (Nat.le_zero.1 hle)
     rw[ur]at this; simp at this
   refine⟨?_,nq listed a w hJ ze⟩
   apply List.eq_nil_iff_forall_not_mem.2
   intro i hi
   rw[Qjc]at hi
   have h1:=ze i hi.1
   have h2:=hi.2.1
   grind
  | succ fuel ih =>
   intro listed a w hJ hle
   refine⟨fun hr=>nq listed a w hJ (Q3z hJ.1 r0 hr),fun i hi=>?_⟩
   rw[Qjc]at hi
   obtain⟨td,nj,o,ho,tf⟩:=hi
   obtain⟨hs,hc,uy⟩:=hJ
   have lr:¬ E listed i:=by
    grind
   have xg:Qon l (E (listed.setIfInBounds i true)):=by
    intro j oj hj hoj e he hb
    rw[wu listed i _ hs td]at hj ⊢
    rcases hj with rfl | hj
    ·rw[ho]at hoj; grind
    ·exact .inr (hc j oj hj hoj e he hb)
   have lu:((List.range l.length).filter fun j=>!(listed.setIfInBounds i true).getD j false).length≤fuel:=by
    have hlt:((List.range l.length).filter fun j=>!(listed.setIfInBounds i true).getD j false).length<((List.range l.length).filter fun j=>!listed.getD j false).length:=by
     apply Qpx (x:=i)
     ·grind
     ·grind
     ·have:=(wu listed i i hs td).2 (.inl rfl)
      grind
     grind
    omega
   rcases uy with hJ1 | ⟨k,hk,hE,hw⟩
   ·rcases Nat.lt_or_ge i p with ez | ez
    ·
     exact Qvp ho (step1 listed a w i o (Exit.then (wpAny P .any ⟨l⟩ Q fuel (listed.setIfInBounds i true)) Q) hs hc hJ1 ez ho lr tf fun a' w' hJ1=>ih _ a' w' ⟨by simp[hs],xg,.inl hJ1⟩ lu)
    ·
     have ze:∀j,j<i→E listed j:=fun j hj=>Py hc l.length i j (Q7d ye ez td hj) fun o' wg=>by rw[ho]at wg; injection wg with wg; subst wg; exact tf
     have hip':i=p:=by
      rcases Nat.lt_or_ge p i with hlt | ti
      ·exact absurd (ze p hlt) (hJ1.1 p (QY _))
      ·omega
     subst hip'
     have hw:=ni listed a w hJ1 ze
     refine wpOp_mono (fun a w qh=>ih _ a w ⟨by simp[hs],xg,.inr ⟨i+1,by omega,fun j hj=>?_,qh⟩⟩ lu) (Qg9 ho hw)
     rw[wu listed i j hs td]
     grind
   ·
    have ze:∀j,j<i→E listed j:=by
     intro j hj
     have hpi:p<i:=by
      rcases Nat.lt_or_ge i k with h1 | h1
      ·exact absurd ((hE i td).2 h1) lr
      ·omega
     exact Py hc l.length i j (Q7d ye (by omega) td hj) fun o' wg=>by rw[ho]at wg; injection wg with wg; subst wg; exact tf
    have hik:i=k:=by
     rcases Nat.lt_or_ge i k with h1 | h1
     ·exact absurd ((hE i td).2 h1) lr
     ·rcases Nat.lt_or_ge k i with h2 | h2
      ·have:=(hE k (by omega)).1 (ze k h2); omega
      ·omega
    subst hik
    refine wpOp_mono (fun a w qh=>ih _ a w ⟨by simp[hs],xg,.inr ⟨i+1,by omega,fun j hj=>?_,qh⟩⟩ lu) (Qg9 ho hw)
    rw[wu listed i j hs td,hE j hj]
    constructor
    ·rintro(rfl | h1)<;>omega
    ·intro h1
     rcases Nat.lt_or_ge j i with h2 | h2
     ·exact .inr h2
     ·exact .inl (by omega)
 refine main _ _ a _ ⟨by simp,fun i o hE=>?_,.inl ⟨fun k _ hE=>?_,?_⟩⟩ ?_
 ·simp only[E]at hE; simp[QN,XZ]at hE
  split at hE<;>simp at hE
 ·simp only[E]at hE; simp[QN,XZ]at hE
  split at hE<;>simp at hE
 ·refine hIE (fun _=>false) _ a _ (fun i hi=>?_) h0
  simp only[QN,XZ]
  split<;>rfl
 grind
end
end Gx

/- One operation, with the rest of the state set aside. -/
namespace Gx
open Go Go.RowKit Gd
set_option linter.unusedVariables false
set_option linter.unusedSimpArgs false
theorem Qf1{β:Nat→Nat}{ρ:Nat→Value}:∀{M:List (Nat×Ob)} {q:Nat×Ob},K6 M=true→q∈M→∀{b o:Nat},(Q0 β ρ q.1 q.2).blks b→(Q0 β ρ q.1 q.2).cov b o
 | (k,ob)::l,q,h,hq,b,o,hb=>by
  cases ob with
  | tail e t xs=>cases h
  | _ =>
   rcases QJ.1 hq with rfl | hq
   ·exact hb
   ·exact Qf1 (M:=l) h hq hb
def Jk4(o:Oper)(a a':Act):Prop:=∀t,o.dst≠some t→a'.tmps[t]?=a.tmps[t]?
def Jk5(o:Oper)(a:Act)(Q:Exit→Act→World→Prop):Exit→Act→World→Prop
 | .normal,a',w'=>Jk4 o a a'→Q .normal a' w'
 | e,a',w'=>Q e a' w'
theorem I9(o:Oper)(a:Act)(v:Value):Jk4 o a (a.put o.dst v):=by
 intro t ht
 cases hd:o.dst with
 | none=>rfl
 | some d=>grind [Yz]
theorem Qz2{P:Program}{ops:Array Oper}{Q:Exit→Act→World→Prop}{o:Oper}{a:Act}{w:World}(h:wpList P ops (Jk5 o a Q) [o] a w):wpList P ops Q [o] a w:=by
 unfold wpList at h ⊢
 split at h
 ·rename_i hw
  rw[if_pos hw]
  rcases h with h | ⟨h1,h2⟩
  ·left
   unfold Oper.wp at h ⊢
   cases hr:(execOp a.eval o).run P w with
   | ok nx w' =>
    rw[hr]at h
    cases nx with
    | value v=>exact h (I9 o a v)
    | skip=>exact h (I9 o a undef)
    | defer d =>
     refine h fun t ht=>?_
     have:=I9 o { a with defers:=d::a.defers } undef t ht
     exact this
    | enter f args =>
     refine Calls.mono h fun e w' he=>?_
     cases e with
     | returned v=>exact he (I9 o a v)
     | panicked c=>exact he
     | outgrown=>exact he
    | row r args=>exact Rows.mono h fun v w' hv=>hv (I9 o a v)
    | _=>exact h.elim
   | halt hl w' =>
    rw[hr]at h
    cases hl with
    | panic v=>exact h
    | _=>exact h.elim
  ·exact .inr ⟨h1,h2⟩
 ·rename_i hw
  rw[if_neg hw]
  exact h (I9 o a undef)
open Classical in
noncomputable def Fn(n:Nat)(O:List TL):List Nat:=(List.range n).filter fun g=>decide (∃t∈O,t.blks g)
section
variable {P:Program} {Y:TX} {X:Cx} {β:Nat→Nat} {ρ:Nat→Value} {a:Act} {w:World} {ops:Array Oper} {Q:Exit→Act→World→Prop} {o:Oper}
theorem Je6(hG:V1 Y.gl (okN X) X.w)(hr:X.res=[])(hp:X.pin=none){Ve Fe:List En}{Vm Fm:List (Nat×Ob)}{S1:St}{pr:List Nat}(h:Rel X β ρ ⟨Ve++Fe,Vm++Fm⟩ a w)(hV:K6 Vm=true)
    (hF:∀e∈Fe,(∀i∈Jb e.av,i∈pr)∧∀d,o.dst=some d→e.t≠d∧∀c∈e.cs,c.1≠d) (hFm:∀i∈Jg Fm,i∈pr)
    (uz:∀(X1:Cx) (Q1:Exit→Act→World→Prop),X1.n=X.n→X1.res=[]→X1.pin=none→V1 Y.gl (okN X1) X1.w→Rel X1 β ρ ⟨Ve,Vm⟩ a w→(∀β' ρ' a' w',agP pr β β' ρ ρ'→Rel X1 β' ρ' S1 a' w'→Q1 .normal a' w')→wpList P ops Q1 [o] a w)
    (H:∀β' ρ' a' w',agP pr β β' ρ ρ'→Rel X β' ρ' ⟨S1.env++Fe,S1.mem++Fm⟩ a' w'→Q .normal a' w'):wpList P ops Q [o] a w:=by
  have eM:Qi β ρ (Vm++Fm)=Qi β ρ Vm++Qi β ρ Fm:=QB
  have hS:Sb (fun _=>0) X [] ((Ve++Fe).map (enD β ρ a)) [] (Qi β ρ Vm++Qi β ρ Fm) a w:=by rw[←eM]; exact h
  have hL1:∀t∈Qi β ρ Vm,∀g,t.blks g→g∈Fn w.heap.size (Qi β ρ Vm):=fun t ht g hg=>by
    unfold Fn
    exact QI.2 ⟨JV.2 (hS.olt (List.mem_append_left _ ht) hg),by grind⟩
  have hL2:∀g∈Fn w.heap.size (Qi β ρ Vm),∃t∈Qi β ρ Vm,t.blks g:=fun g hg=>by
    simp_all [Fn,QI,decide_eq_true_eq]
  have wt:∀t∈Qi β ρ Vm,∀b o,t.blks b→t.cov b o:=fun t ht b o hb=>by
    obtain⟨q,hq,rfl⟩:=QZ.1 ht
    grind [Qf1]
  have hk:∀b f,Jh X.ok X.w.heap.size (fun _=>0) [] (Qi β ρ Vm++Qi β ρ Fm) w b f→Jh (okL (Fn w.heap.size (Qi β ρ Vm)) (Jh X.ok X.w.heap.size (fun _=>0) [] (Qi β ρ Vm++Qi β ρ Fm) w)) w.heap.size (fun _=>0) [] (Qi β ρ Vm) w b f :=
    fun b f kp=>⟨.inl (.inl kp),kp.2.1,by simp,fun t ht hc=>kp.2.2.2 t (List.mem_append_left _ ht) hc⟩
  refine Qz2 (uz { cxL (Fn w.heap.size (Qi β ρ Vm)) X.n (Jh X.ok X.w.heap.size (fun _=>0) [] (Qi β ρ Vm++Qi β ρ Fm) w) w with dfs:=X.dfs } (Jk5 o a Q) rfl rfl rfl ?_ ?_ fun β' ρ' a' w' xi hR zm=>?_)
  · exact(P6 hS hG).weak fun b f kp=>⟨.inl kp,fun wh=>by
      obtain⟨t,ht,hg⟩:=hL2 b wh
      exact kp.2.2.2 t (List.mem_append_left _ ht) (wt t ht b f hg),kp.2.1⟩
  · exact { sz:=hS.sz,df:=hS.df,fr:=by simp,pn:=by simp,tm:=by simp,bel:=Uv.refl _ _ _,obj:=by simp,dHH:=by simp,dHO:=by simp,
            dat:=Yc.2 fun x hx=>by
              obtain⟨e,he,rfl⟩:=QZ.1 hx
              exact(enD β ρ a e).weak (Yc.1 hS.dat _ (QZ.2 ⟨e,List.mem_append_left _ he,rfl⟩)) hk,
            own:=fun t ht=>⟨t.weak (hS.own t (List.mem_append_left _ ht)).1 hk,fun g hg=>.inr (hL1 t ht g hg)⟩,
            dOO:=(QF.1 hS.dOO).1 }
  · have hC:=Sb.callO (O1':=Qi β' ρ' S1.mem) hS hR.bel hL2 wt (fun t ht=>⟨(hR.own t ht).1,fun g hg=>(hR.own t ht).2 g hg⟩) hR.dOO
    have vn:Xj (Qi β ρ Fm) (Qi β' ρ' Fm):=Qtn fun i hi=>xi i (hFm i hi)
    have hC2:=hC.simO ((Xj.refl (Qi β' ρ' S1.mem)).append vn)
    have ke:Qi β' ρ' (S1.mem++Fm)=Qi β' ρ' S1.mem++Qi β' ρ' Fm:=QB
    have hC3:Sb (fun _=>0) X [] [] [] (Qi β' ρ' S1.mem++Qi β' ρ' Fm) a' w' :=
      { sz:=hR.sz,df:=hR.df,fr:=by rw[hr]; simp,pn:=by rw[hp]; simp,tm:=by simp,bel:=hC2.bel,dat:=trivial,obj:=by simp,own:=hC2.own,dHH:=by simp,dHO:=by simp,dOO:=hC2.dOO }
    refine H β' ρ' a' w' xi (Rel.ofSb hC3 ke.symm fun e he=>?_)
    rcases QX.1 he with he | he
    · have h1:=Yc.1 hR.dat _ (QZ.2 ⟨e,he,rfl⟩)
      refine(enD β' ρ' a' e).weak h1 fun b f hbf=>?_
      have h2:=Qdx hS hR.bel.size hL2 b f hbf
      have h3:=((Xj.refl (Qi β' ρ' S1.mem)).append vn).ok b f h2
      grind
    · have h1:=Yc.1 hC2.dat _ (QZ.2 ⟨e,List.mem_append_right _ he,rfl⟩)
      obtain⟨hi,hd⟩:=hF e he
      have ht:∀t,(∀d,o.dst=some d→t≠d)→a'.tmps[t]?=a.tmps[t]?:=fun t ht=>zm t fun hd=>ht t hd rfl
      have yc:Js a' e.cs↔Js a e.cs:=⟨fun hc c hm=>by rw[←ht _ fun d qa=>(hd d qa).2 c hm]; exact hc c hm,fun hc c hm=>by rw[ht _ fun d qa=>(hd d qa).2 c hm]; exact hc c hm⟩
      have jv:rd a' e.t=rd a e.t:=by grind [rd]
      refine⟨fun hc=>?_,?_⟩
      · obtain⟨cs,q1,q2⟩:=h1.1 (yc.1 hc)
        refine⟨cs,by rw[jv]; exact q1,?_⟩
        unfold okR
        rw[ke]
        exact Wu (fun i hm=>xi i (hi i hm)) q2
      · rw[yc,jv]; exact h1.2
end
end Gx

/- Regions of open order by ordinary steps: what is found, what is one's own. -/
namespace Gx
open Go Go.RowKit Gd
set_option linter.unusedVariables false
set_option linter.unusedSimpArgs false
theorem Q4n{id:Nat}{e:EC}{c:Option Ob}(h:Zd id e=false):upC id e c=c:=by
 unfold Zd at h
 unfold upC
 cases hl:Qlo e.ups id with
 | none=>rfl
 | some x=>rw[hl]at h; cases h
theorem Nr{E:Nat→Bool}{id:Nat}:∀{l1 l2:List EC} {j:Nat} {c:Option Ob},Yo E id (l1++l2) j c=Yo E id l2 (j+l1.length) (Yo E id l1 j c)
 | [],l2,j,c=>rfl
 | e::l1,l2,j,c=>by
  simp only[QA,Yo,Nr (l1:=l1),List.length_cons]
  rw[show j+1+l1.length=j+(l1.length+1) by omega]
theorem Ls{E E':Nat→Bool}{id:Nat}:∀{l:List EC} {j:Nat} {c:Option Ob},(∀(k:Nat) e,l[k]?=some e→Zd id e=true→E (j+k)=E' (j+k))→Yo E id l j c=Yo E' id l j c
 | [],j,c,_=>rfl
 | e0::l,j,c,h=>by
  simp only[Yo]
  have e:(bif E j then upC id e0 c else c)=(bif E' j then upC id e0 c else c):=by
   cases ht:Zd id e0 with
   | true=>rw[show E j=E' j from h 0 _ rfl ht]
   | false=>rw[Q4n ht]; cases E j<;>cases E' j<;>rfl
  rw[e]
  exact Ls fun k g hk ht=>by
   have:=h (k+1) g (by simpa using hk) ht
   rw[show j+1+k=j+(k+1) by omega]; exact this
theorem La{E:Nat→Bool}{id:Nat}:∀{l:List EC} {j:Nat} {c:Option Ob},(∀(k:Nat) e,l[k]?=some e→Zd id e=true→E (j+k)=false)→Yo E id l j c=c
 | [],j,c,_=>rfl
 | e0::l,j,c,h=>by
  simp only[Yo]
  have e:(bif E j then upC id e0 c else c)=c:=by
   cases ht:Zd id e0 with
   | true=>rw[show E j=false from h 0 _ rfl ht]; rfl
   | false=>rw[Q4n ht]; cases E j<;>rfl
  rw[e]
  exact La fun k g hk ht=>by
   have:=h (k+1) g (by simpa using hk) ht
   rw[show j+1+k=j+(k+1) by omega]; exact this
theorem Qz3{acc:List EC}{i:Nat}{g:EC}(hg:acc[i]?=some g):acc=acc.take i++g::acc.drop (i+1)∧(acc.take i).length=i:=by
 have hi:i<acc.length:=(List.getElem?_eq_some_iff.1 hg).1
 rw[List.getElem?_eq_getElem hi]at hg
 grind [List.length_take,List.drop_eq_getElem_cons,List.take_append_drop]
section
variable {E:Nat→Bool} {acc:List EC} {i id:Nat} {g:EC} {c:Option Ob}
theorem Je7(hg:acc[i]?=some g)(hi:E i=false)(he:∀(j:Nat) g',acc[j]?=some g'→j<i→Zd id g'=true→E j=true)(hl:∀(j:Nat) g',acc[j]?=some g'→i<j→Zd id g'=true→E j=false) :
  Yo E id acc 0 c=Yo Wq id (acc.take i) 0 c:=by
 obtain⟨e1,e2⟩:=Qz3 hg
 have e3:Yo E id acc 0 c=Yo E id (acc.take i++g::acc.drop (i+1)) 0 c:=by rw[←e1]
 rw[e3,Nr,e2,QV]
 simp only[Yo,hi,cond_false]
 rw[La fun k g' hk ht=>hl (i+1+k) g' (by rw[JX]at hk; exact hk) (by omega) ht]
 refine Ls fun k g' hk ht=>?_
 rw[JJ]at hk
 split at hk
 ·rw[QV,he k g' hk (by omega) ht]; rfl
 ·cases hk
theorem Je8(hg:acc[i]?=some g)(hi:E i=false)(hl:∀(j:Nat) g',acc[j]?=some g'→i<j→Zd id g'=true→E j=false) :
  Yo (Qef E i) id acc 0 c=upC id g (Yo E id acc 0 c):=by
 obtain⟨e1,e2⟩:=Qz3 hg
 have e3:∀E,Yo E id acc 0 c=Yo E id (acc.take i++g::acc.drop (i+1)) 0 c:=fun E=>by rw[←e1]
 rw[e3,e3,Nr,Nr,e2,QV]
 simp only[Yo,hi,cond_false,BEq.rfl,Bool.true_or,cond_true]
 have h1:Yo (Qef E i) id (acc.take i) 0 c=Yo E id (acc.take i) 0 c:=Ls fun k g' hk ht=>by
  have:k<i:=by
   rw[JJ]at hk
   grind
  simp only[Qef,QV]
  rw[show(k==i)=false by simp; omega]; rfl
 have h2:∀c',Yo (Qef E i) id (acc.drop (i+1)) (i+1) c'=c':=fun c'=>La fun k g' hk ht=>by
  grind
 have h3:∀c',Yo E id (acc.drop (i+1)) (i+1) c'=c':=fun c'=>La fun k g' hk ht=>hl (i+1+k) g' (by rw[JX]at hk; exact hk) (by omega) ht
 rw[h2,h3,h1]
 grind
theorem Je9(hg:acc[i]?=some g)(ht:Zd id g=false):Yo (Qef E i) id acc 0 c=Yo E id acc 0 c :=
 Ls fun k g' hk k9=>by
  rw[QV]
  by_cases e:k=i
  ·grind
  grind
theorem Qh4{E:Nat→Bool}:∀{acc:List EC} {j:Nat} {e:En},e∈Du E acc j→∃(k:Nat) (g:EC),acc[k]?=some g∧E (j+k)=true∧g.has=true∧e=⟨g.d,[],g.av⟩
 | [],j,e,h=>by cases h
 | g::l,j,e,h=>by
  simp only[Du]at h
  cases hb:(E j&&g.has)with
  | true =>
   rw[hb]at h
   simp only[QQ]at hb
   rcases QJ.1 h with rfl | h
   ·exact⟨0,g,rfl,hb.1,hb.2,rfl⟩
   ·obtain⟨k,g',h1,h2,h3,h4⟩:=Qh4 h
    exact⟨k+1,g',by simpa using h1,by rw[show j+(k+1)=j+1+k by omega]; exact h2,h3,h4⟩
  | false =>
   rw[hb]at h
   obtain⟨k,g',h1,h2,h3,h4⟩:=Qh4 h
   exact⟨k+1,g',by simpa using h1,by rw[show j+(k+1)=j+1+k by omega]; exact h2,h3,h4⟩
theorem Qwe{E:Nat→Bool}:∀{acc:List EC} {j k:Nat} {g:EC},acc[k]?=some g→E (j+k)=true→g.has=true→(⟨g.d,[],g.av⟩:En)∈Du E acc j
 | [],j,k,g,h,_,_=>by simp at h
 | g0::l,j,0,g,h,h1,h2=>by
  grind [Du]
 | g0::l,j,k+1,g,h,h1,h2=>by
  have:=Qwe (acc:=l) (j:=j+1) (k:=k) (by simpa using h) (by rw[show j+1+k=j+(k+1) by omega]; exact h1) h2
  grind [Du]
end
theorem Jaq{ids:List Nat}:∀{names:List Nat},ids.Nodup→names.Nodup→(∀i∈ids,i∈names)→names.Perm (ids++names.filter fun i=>!Yd ids i):=by
 induction ids with
 | nil =>
  intro names _ _ _
  have:(names.filter fun i=>!Yd [] i)=names:=List.filter_eq_self.2 fun _ _=>rfl
  rw[this]
  grind
 | cons x ids ih =>
  intro names hi hn hs
  have p8:=QT.1 hi
  obtain⟨l1,l2,rfl⟩:=List.append_of_mem (hs x (.head _))
  have hn2:(l1++l2).Nodup∧x∉l1++l2:=by
   have:=(List.perm_middle.nodup_iff (l₁:=l1++x::l2)).1 hn
   grind
  have h1:=ih (names:=l1++l2) p8.2 hn2.1 fun i qq=>by
   have:=hs i (.tail _ qq)
   grind
  have e:((l1++x::l2).filter fun i=>!Yd (x::ids) i)=(l1++l2).filter fun i=>!Yd ids i:=by
   have hf:∀l:List Nat,x∉l→(l.filter fun i=>!Yd (x::ids) i)=l.filter fun i=>!Yd ids i:=fun l hx=>by
    refine List.filter_congr fun i qq=>?_
    have zk:x≠i:=fun e=>hx (e▸qq)
    simp only[Yd,Jpl zk,ZI]
   rw[List.filter_append,XF]
   have n0:(!Yd (x::ids) x)=false:=by simp[Yd,Nat.beq_refl]
   rw[n0]
   grind
  rw[e]
  exact List.perm_middle.trans (List.Perm.cons x h1)
end Gx

/- One operation of a region of open order, by an ordinary step. -/
namespace Gx
open Go Go.RowKit Gd
set_option linter.unusedVariables false
set_option linter.unusedSimpArgs false
theorem Qj0:∀{ids:List Nat} {M:List (Nat×Ob)},ids.Nodup→(Jl M ids).2=ids.filterMap fun t=>Zm t (Qe M t)
 | [],M,_=>rfl
 | t::ts,M,hn=>by
  have xx:=QT.1 hn
  simp only[Jl,JU]
  cases hl:Qe M t with
  | none=>simp only[Zm]; exact Qj0 xx.2
  | some o =>
   simp only[Zm]
   rw[Qj0 (M:=Jx M t) xx.2]
   congr 1
   exact Yv fun j hj=>by rw[Qpj fun(e:j=t)=>xx.1 (by rw[←e]; exact hj)]; cases Qe M j<;>rfl
theorem Ra{f:Nat→Option Ob}{id:Nat}:∀{ids:List Nat},Qlo (ids.map fun i=>(i,f i)) id=if id∈ids then some (f id)else none
 | []=>rfl
 | k::l=>by
  simp only[QP,Qlo]
  cases hb:Nat.beq k id with
  | true =>
   have:=Nat.eq_of_beq_eq_true hb
   subst this
   simp
  | false =>
   have zk:id≠k:=fun e=>by simp_all
   simp only[cond_false,Ra (ids:=l),QJ,zk,false_or]
section
variable {P:Program} {Y:TX} {X:Cx} {β:Nat→Nat} {ρ:Nat→Value} {a:Act} {w:World} {ops:Array Oper} {Q:Exit→Act→World→Prop} {o:Oper}
theorem Jfa(hG:V1 Y.gl (okN X) X.w)(hr:X.res=[])(hp:X.pin=none){names:List Nat}{Zs Mb:List (Nat×Ob)}{acc:List EC}{E:Nat→Bool}{B Ve:List En}{i:Nat}{g:EC}{tch ro bs pr:List Nat}{S1:XS}
  (h:Rel X β ρ ⟨Du E acc 0++B,Fk names Zs acc E++Mb⟩ a w) (hg:acc[i]?=some g) (hi:E i=false) (ae:names.Nodup) (yf:(tch++ro++bs).Nodup) (wx:∀id∈tch++ro++bs,id∈names)
  (uv:∀id∈tch++ro,∀(j:Nat) g',acc[j]?=some g'→j<i→Zd id g'=true→E j=true) (u0:∀id∈tch++ro++bs,∀(j:Nat) g',acc[j]?=some g'→i<j→Zd id g'=true→E j=false)
  (nr:∀id∈bs,Yo E id acc 0 (Qe Zs id)=none) (hVe:∀e∈Ve,e∈Du E acc 0++B) (e7:g.ups=(tch++bs).map fun id=>(id,Qe S1.mem id)) (hgd:g.has=true→∃cs,(⟨g.d,cs,g.av⟩:En)∈S1.env∧cs=[]) (lx:∀d,o.dst=some d→d=g.d)
  (hnt:K6 ((tch.filterMap fun id=>Zm id (Yo Wq id (acc.take i) 0 (Qe Zs id)))++ro.filterMap fun id=>Zm id (Yo Wq id (acc.take i) 0 (Qe Zs id)))=true)
  (hF:∀e∈Du E acc 0++B,(∀i∈Jb e.av,i∈pr)∧∀d,o.dst=some d→e.t≠d∧∀c∈e.cs,c.1≠d) (hFm:∀id∈Jg (((names.filter fun j=>!Yd (tch++ro++bs) j).filterMap fun id=>Zm id (Yo E id acc 0 (Qe Zs id)))++Mb),id∈pr)
  (uz:∀(X1:Cx) (Q1:Exit→Act→World→Prop),X1.n=X.n→X1.res=[]→X1.pin=none→V1 Y.gl (okN X1) X1.w→Rel X1 β ρ ⟨Ve,(tch.filterMap fun id=>Zm id (Yo Wq id (acc.take i) 0 (Qe Zs id)))++ro.filterMap fun id=>Zm id (Yo Wq id (acc.take i) 0 (Qe Zs id))⟩ a w→(∀β' ρ' a' w',agP pr β β' ρ ρ'→Rel X1 β' ρ' ⟨S1.env,S1.mem++(ro.filterMap fun id=>Zm id (Yo Wq id (acc.take i) 0 (Qe Zs id)))⟩ a' w'→Q1 .normal a' w')→wpList P ops Q1 [o] a w)
  (H:∀β' ρ' a' w',agP pr β β' ρ ρ'→Rel X β' ρ' ⟨Du (Qef E i) acc 0++B,Fk names Zs acc (Qef E i)++Mb⟩ a' w'→Q .normal a' w'):wpList P ops Q [o] a w:=by
 have vi:=Jaq yf ae wx
 have e8:∀id∈tch++ro,Yo E id acc 0 (Qe Zs id)=Yo Wq id (acc.take i) 0 (Qe Zs id):=fun id hm=>Je7 hg hi (uv id hm) (u0 id (List.mem_append_left _ hm))
 have hT:(tch.filterMap fun id=>Zm id (Yo E id acc 0 (Qe Zs id)))=tch.filterMap fun id=>Zm id (Yo Wq id (acc.take i) 0 (Qe Zs id)):=(Yv fun id hm=>by rw[e8 id (List.mem_append_left _ hm)])
 have hR:(ro.filterMap fun id=>Zm id (Yo E id acc 0 (Qe Zs id)))=ro.filterMap fun id=>Zm id (Yo Wq id (acc.take i) 0 (Qe Zs id)):=(Yv fun id hm=>by rw[e8 id (List.mem_append_right _ hm)])
 have hB0:(bs.filterMap fun id=>Zm id (Yo E id acc 0 (Qe Zs id)))=[]:=by
  rw[XR]
  intro id hm
  rw[nr id hm]; rfl
 have rj:(Fk names Zs acc E++Mb).Perm ((tch.filterMap fun id=>Zm id (Yo Wq id (acc.take i) 0 (Qe Zs id)))++(ro.filterMap fun id=>Zm id (Yo Wq id (acc.take i) 0 (Qe Zs id)))++(((names.filter fun j=>!Yd (tch++ro++bs) j).filterMap fun id=>Zm id (Yo E id acc 0 (Qe Zs id)))++Mb)):=by
  have h1:=vi.filterMap fun id=>Zm id (Yo E id acc 0 (Qe Zs id))
  rw[JQ,JQ,JQ,hT,hR,hB0,QH]at h1
  rw[←List.append_assoc]
  exact h1.append_right Mb
 have h2:Rel X β ρ ⟨Ve++(Du E acc 0++B),_⟩ a w:=Rel.less (Rel.permM h rj) fun e he=>by
  grind
 refine Je6 hG hr hp h2 hnt hF hFm uz fun β' ρ' a' w' xi hR1=>H β' ρ' a' w' xi ?_
 have htc:∀id,Zd id g=decide (id∈tch++bs):=fun id=>by
  unfold Zd
  rw[e7,Ra]
  by_cases hm:id∈tch++bs
  ·rw[if_pos hm]; simp[Ht,hm]
  simp_all [if_neg,Ht]
 have hup:∀id∈tch++bs,Yo (Qef E i) id acc 0 (Qe Zs id)=Qe S1.mem id:=fun id hm=>by
  have hm3:id∈tch++ro++bs:=by
   grind
  rw[Je8 hg hi (u0 id hm3)]
  unfold upC
  rw[e7,Ra,if_pos hm]
 have z7:∀id,id∉tch++bs→Yo (Qef E i) id acc 0 (Qe Zs id)=Yo E id acc 0 (Qe Zs id):=fun id hm=>Je9 hg (by rw[htc]; simpa using hm)
 have hnd2:=List.nodup_append.1 yf
 have hnd3:=List.nodup_append.1 hnd2.1
 have e9:(tch++bs).Nodup:=by
  rw[List.nodup_append]
  grind
 have hpm2:(Fk names Zs acc (Qef E i)++Mb).Perm ((Jl S1.mem (tch++bs)).2++(ro.filterMap fun id=>Zm id (Yo Wq id (acc.take i) 0 (Qe Zs id)))++(((names.filter fun j=>!Yd (tch++ro++bs) j).filterMap fun id=>Zm id (Yo E id acc 0 (Qe Zs id)))++Mb)):=by
  have h1:=vi.filterMap fun id=>Zm id (Yo (Qef E i) id acc 0 (Qe Zs id))
  rw[JQ,JQ,JQ]at h1
  have e1:((tch.filterMap fun id=>Zm id (Yo (Qef E i) id acc 0 (Qe Zs id)))++(bs.filterMap fun id=>Zm id (Yo (Qef E i) id acc 0 (Qe Zs id))))=(Jl S1.mem (tch++bs)).2:=by
   rw[Qj0 e9,←JQ]
   grind [Yv,id]
  have e2:(ro.filterMap fun id=>Zm id (Yo (Qef E i) id acc 0 (Qe Zs id)))=(ro.filterMap fun id=>Zm id (Yo Wq id (acc.take i) 0 (Qe Zs id))):=by
   rw[←hR]
   refine Yv fun id hm=>by
    rw[z7 id fun tn=>?_]
    grind
  have e3:((names.filter fun j=>!Yd (tch++ro++bs) j).filterMap fun id=>Zm id (Yo (Qef E i) id acc 0 (Qe Zs id)))=(names.filter fun j=>!Yd (tch++ro++bs) j).filterMap fun id=>Zm id (Yo E id acc 0 (Qe Zs id)):=by
   refine Yv fun id hm=>by
    rw[z7 id fun tn=>?_]
    have h3:=(QI.1 hm).2
    grind
  rw[e2,e3]at h1
  rw[←e1,←List.append_assoc]
  refine(h1.append_right Mb).trans ?_
  refine List.Perm.append_right _ (List.Perm.append_right _ ?_)
  rw[List.append_assoc,List.append_assoc]
  exact List.Perm.append_left _ JK
 have mj:(S1.mem++(ro.filterMap fun id=>Zm id (Yo Wq id (acc.take i) 0 (Qe Zs id)))++(((names.filter fun j=>!Yd (tch++ro++bs) j).filterMap fun id=>Zm id (Yo E id acc 0 (Qe Zs id)))++Mb)).Perm ((Jl S1.mem (tch++bs)).1++((Jl S1.mem (tch++bs)).2++(ro.filterMap fun id=>Zm id (Yo Wq id (acc.take i) 0 (Qe Zs id)))++(((names.filter fun j=>!Yd (tch++ro++bs) j).filterMap fun id=>Zm id (Yo E id acc 0 (Qe Zs id)))++Mb))):=by
  have h1:=(Zo (tch++bs) S1.mem).symm.trans JK
  have h3:=(h1.append_right (ro.filterMap fun id=>Zm id (Yo Wq id (acc.take i) 0 (Qe Zs id)))).append_right (((names.filter fun j=>!Yd (tch++ro++bs) j).filterMap fun id=>Zm id (Yo E id acc 0 (Qe Zs id)))++Mb)
  grind
 have hR2:=Rel.permM hR1 mj
 have hR3:Rel X β' ρ' ⟨S1.env++(Du E acc 0++B),(Jl S1.mem (tch++bs)).2++(ro.filterMap fun id=>Zm id (Yo Wq id (acc.take i) 0 (Qe Zs id)))++(((names.filter fun j=>!Yd (tch++ro++bs) j).filterMap fun id=>Zm id (Yo E id acc 0 (Qe Zs id)))++Mb)⟩ a' w':=Sb.subO hR2 ((List.sublist_append_right _ _).map _)
 refine Rel.less (Rel.permM hR3 hpm2.symm) fun e he=>?_
 rcases QX.1 he with he | he
 ·obtain⟨k,g',q1,q2,q3,rfl⟩:=Qh4 he
  rw[QV]at q2
  by_cases hki:k=i
  ·grind
  ·simp only[Qef]at q2
   rw[show(k==i)=false by simp; omega,ZI]at q2
   exact List.mem_append_right _ (List.mem_append_left _ (Qwe q1 (by rw[QV]; exact q2) q3))
 grind
end
end Gx

/- A region of open order by ordinary steps: the interpreter. -/
namespace Gx
open Go Go.RowKit Gd
set_option linter.unusedVariables false
set_option linter.unusedSimpArgs false
theorem Qtr:∀{acc:List EC} {t:Nat} {v:AV},Qhs acc t=some v→∃g∈acc,g.d=t∧g.has=true∧g.av=v
 | [],t,v,h=>by simp[Qhs]at h
 | g::l,t,v,h=>by
  simp only[Qhs]at h
  cases hb:(Nat.beq g.d t&&g.has)with
  | true =>
   rw[hb]at h
   simp_all
  | false =>
   rw[hb]at h
   obtain⟨g',h1,h2⟩:=Qtr h
   grind
theorem Rb{l0:List Oper}{ds:List Nat}{i:Nat}{acc:List EC}{B:List En}:∀{ts:List Nat} {e:En},e∈Qo9 l0 ds i acc B ts →
  (e.cs=[]∧Qhs acc e.t=some e.av∧Q6k l0 i (ds.idxOf e.t)=true)∨e∈B
 | [],e,h=>by
  grind [Qh0,Qo9]
 | t::ts,e,h=>by
  simp only[Qo9]at h
  split at h
  ·rename_i v hv
   cases hp:Q6k l0 i (ds.idxOf t)with
   | true =>
    rw[hp]at h
    rcases QJ.1 h with rfl | h
    ·grind
    ·exact Rb h
   | false=>rw[hp]at h; exact Rb h
  ·cases hb:Qld ds t with
   | true =>
    rw[hb]at h
    simp only[cond_true]at h
    split at h
    ·rename_i t' v he
     obtain⟨h1,h2⟩:=Uy he
     rcases QJ.1 h with rfl | h
     ·exact .inr h1
     ·exact Rb h
    ·exact Rb h
   | false=>rw[hb]at h; exact Rb h
theorem Cv{l m:List Nat}(h:Qag l m=true){x:Nat}(h1:x∈l)(h2:x∈m):False:=by
 have:=QO.1 h x h1
 rw[Qh1 h2]at this; cases this
section
variable {R:Type} (Y:TX) (K:List Con) (n:Nat) (l0:List Oper) (ds:List Nat) (Zs:List (Nat×Ob)) (B:List En) (prA:List Nat)
def TrC:List HD→List Oper→Nat→List EC→List EC→Prop
 | [],[],_,_,[]=>True
 | hc::hs,o::l,i,acc,g::acc2=>(∃S1,Yt (R:=XS) Y K n l0 hc.h [o] (Qpa l0 ds Zs B prA hc o i acc) some=some S1∧Qfy n ds Zs hc o i acc S1=some g)∧TrC hs l (i+1) (acc++[g]) acc2
 | _,_,_,_,_=>False
end
section
variable {R:Type} {r:R} {Y:TX} {K:List Con} {n:Nat} {l0:List Oper} {ds:List Nat} {Zs:List (Nat×Ob)} {B:List En} {prA:List Nat}
theorem Qp2{acc:List EC}{t:Nat}{b:Bool}(h:Qhs acc t=some (.d .bool b)):Qzd acc t b=acc:=by
 induction acc with
 | nil=>rfl
 | cons g l ih =>
  simp only[Qhs]at h
  simp only[Qzd]
  cases hb:(Nat.beq g.d t&&g.has)with
  | true =>
   rw[hb]at h
   simp only[cond_true,Option.some.injEq]at h
   obtain⟨gd,gv,gh,gu⟩:=g
   grind
  | false =>
   rw[hb]at h
   grind
theorem Qnz:∀{ht:HT} {l:List Oper} {i:Nat} {hs:List HD} {acc:List EC} {k:Hn→List HD→List EC→Option R},Qpb Y K n l0 ds Zs B prA ht l i hs acc k=some r →
  ∃h yp acc2,k h (hs++yp) (acc++acc2)=some r∧TrC Y K n l0 ds Zs B prA yp l i acc acc2∧∀x∈Kg yp,x∈Bs ht
 | .tl h,[],i,hs,acc,k,hr=>⟨h,[],[],by grind [Qpb],trivial,by simp[Kg]⟩
 | .tl h,_::_,i,hs,acc,k,hr=>by simp[Qpb]at hr
 | .op hc t,[],i,hs,acc,k,hr=>by simp[Qpb]at hr
 | .op hc t,o::l,i,hs,acc,k,hr=>by
  simp only[Qpb]at hr
  obtain⟨S1,h1,h2⟩:=Qpg hr
  split at h1
  ·rename_i g hg
   obtain⟨h,yp,acc2,h3,h4,h5⟩:=Qnz h1
   refine⟨h,hc::yp,g::acc2,by simpa using h3,⟨⟨S1,h2,hg⟩,h4⟩,fun x hx=>?_⟩
   rcases QX.1 hx with hx | hx
   ·exact List.mem_append_left _ hx
   ·exact List.mem_append_right _ (h5 x hx)
  ·cases h1
 | .so t a b,l,i,hs,acc,k,hr=>by
  simp only[Qpb]at hr
  split at hr
  ·rename_i v hv
   cases v with
   | true =>
    rw[if_pos rfl,Qp2 hv]at hr
    obtain⟨h,yp,acc2,h3,h4,h5⟩:=Qnz hr
    exact⟨h,yp,acc2,h3,h4,fun x hx=>List.mem_append_left _ (h5 x hx)⟩
   | false =>
    rw[if_neg (by simp),Qp2 hv]at hr
    obtain⟨h,yp,acc2,h3,h4,h5⟩:=Qnz hr
    exact⟨h,yp,acc2,h3,h4,fun x hx=>List.mem_append_right _ (h5 x hx)⟩
  ·cases hr
theorem TrC.get:∀{hs:List HD} {l:List Oper} {i:Nat} {acc acc2:List EC},TrC Y K n l0 ds Zs B prA hs l i acc acc2→acc2.length=l.length∧hs.length=l.length∧∀(j:Nat) o,l[j]?=some o→∃g hc S1,acc2[j]?=some g∧hs[j]?=some hc ∧
  Yt (R:=XS) Y K n l0 hc.h [o] (Qpa l0 ds Zs B prA hc o (i+j) (acc++acc2.take j)) some=some S1∧Qfy n ds Zs hc o (i+j) (acc++acc2.take j) S1=some g
 | [],[],i,acc,[],_=>⟨rfl,rfl,by simp⟩
 | [],[],i,acc,_::_,h=>h.elim
 | [],_::_,i,acc,_,h=>by simp[TrC]at h
 | _::_,[],i,acc,_,h=>by simp[TrC]at h
 | _::_,_::_,i,acc,[],h=>by simp[TrC]at h
 | hc::hs,o::l,i,acc,g::acc2,h=>by
  obtain⟨⟨S1,q1,q2⟩,h0⟩:=h
  obtain⟨h2,zb,h3⟩:=TrC.get h0
  refine⟨by simp[h2],by simp[zb],fun j o' ho=>?_⟩
  cases j with
  | zero =>
   grind
  | succ j =>
   grind
end
end Gx

/- A region of open order by ordinary steps. -/
namespace Gx
open Go Go.RowKit Gd
set_option linter.unusedVariables false
set_option linter.unusedSimpArgs false
theorem Lb{n:Nat}{ds:List Nat}{Zs:List (Nat×Ob)}{hc:HD}{o:Oper}{i:Nat}{acc:List EC}{S1:XS}{g:EC}(h:Qfy n ds Zs hc o i acc S1=some g) :
  K6 (Qe4 hc.tch Zs acc++Qe4 hc.ro Zs acc)=true∧Wt hc.nm (Jg S1.mem)=true∧(g.ups=(hc.tch++hc.bs).map fun id=>(id,Qe S1.mem id))∧ds.getD i 0=g.d∧Wt hc.nm (Jb g.av)=true∧(∀d,o.dst=some d→d=g.d∧d<n)∧(g.has=true→∃cs,(⟨g.d,cs,g.av⟩:En)∈S1.env∧cs=[])∧(o.dst=none→n≤1000000000→n≤g.d):=by
 unfold Qfy at h
 obtain⟨hb,h⟩:=bvT h
 simp only[QQ]at hb
 split at h
 ·rename_i d hd
  split at h
  ·rename_i t av hl
   obtain⟨z8,h⟩:=bvT h
   simp only[QQ]at z8
   simp only[Option.some.injEq]at h
   subst h
   obtain⟨hm,ht⟩:=Uy hl
   simp_all
  ·cases h
 ·rename_i hd
  obtain⟨z8,h⟩:=bvT h
  simp only[Option.some.injEq]at h
  subst h
  exact⟨hb.1,hb.2,rfl,Nat.eq_of_beq_eq_true z8,(by trivial),(fun d' qa=>by rw[hd]at qa; cases qa),(fun h=>by cases h),fun _ hn=>by grind⟩
theorem Qb1:∀{l m:List (Nat×Ob)} {i:Nat},i∈Jg (l++m)→i∈Jg l∨i∈Jg m
 | [],m,i,h=>.inr h
 | (k,ob)::l,m,i,h=>by
  have key:∀{xs:List Nat},i∈xs++Jg (l++m)→i∈xs++Jg l∨i∈Jg m:=fun {xs} h=>by
   rcases QX.1 h with h | h
   ·grind
   ·exact(Qb1 h).imp (List.mem_append_right _) id
  cases ob with
  | var t c=>grind [Jb,Jg,id]
  | mapC a b xs hole =>
   cases hole with
   | none=>exact key (xs:=[k]) (by simpa[Jg]using h) |>.imp (by simp[Jg]) id
   | some q=>exact key (xs:=[k,q.2]) (by grind [Jg]) |>.imp (by simp[Jg]) id
  | _=>exact key (xs:=[k]) (by simpa[Jg]using h) |>.imp (by simp[Jg]) id
theorem Qp3{f:Nat→Option Ob}{i:Nat}:∀{ids:List Nat},i∈Jg (ids.filterMap fun id=>Zm id (f id))→∃id∈ids,∃ob,f id=some ob∧i∈Jg [(id,ob)]
 | [],h=>by cases h
 | id::ids,h=>by
  simp only[JU]at h
  cases hf:f id with
  | none =>
   rw[hf]at h
   obtain⟨id',h1,ob,h2,h3⟩:=Qp3 (ids:=ids) h
   grind
  | some ob =>
   rw[hf]at h
   rcases Qb1 (l:=[(id,ob)]) h with h | h
   ·grind
   ·obtain⟨id',h1,ob',h2,h3⟩:=Qp3 (ids:=ids) h
    grind
theorem Qts{M:List (Nat×Ob)}{id i:Nat}{ob:Ob}:Qe M id=some ob→i∈Jg [(id,ob)]→i∈Jg M:=by
 intro h hi
 obtain⟨l1,l2,e,w1,w2⟩:=Jv h
 rw[e]
 clear e h w1 w2
 induction l1 with
 | nil =>
  have key:∀{xs ys:List Nat},i∈xs++[]→i∈xs++ys:=fun h=>List.mem_append_left _ (by simpa using h)
  cases ob with
  | var t c=>have:=key (xs:=id::Jb c) (ys:=Jg l2) (by grind [Jg]); grind [Jg]
  | mapC a b xs hole =>
   cases hole with
   | none=>have:=key (xs:=[id]) (ys:=Jg l2) (by simp_all [Jg]); simp_all [Jg]
   | some q=>have:=key (xs:=[id,q.2]) (ys:=Jg l2) (by grind [Jg]); grind [Jg]
  | _=>have:=key (xs:=[id]) (ys:=Jg l2) (by simpa[Jg]using hi); grind [Jg]
 | cons q l ih =>
  obtain⟨k,x⟩:=q
  cases x with
  | var t c=>grind [Jg,List.mem_append_right]
  | mapC a b xs hole =>
   cases hole with
   | none=>simp_all [QA,Jg]
   | some q=>grind [Jg]
  | _=>grind [Jg]
theorem Qz4{E:Nat→Bool}{id:Nat}{ob:Ob}:∀{l:List EC} {j:Nat} {c:Option Ob},Yo E id l j c=some ob→c=some ob∨∃(k:Nat) (g:EC),l[k]?=some g∧E (j+k)=true∧Qlo g.ups id=some (some ob)
 | [],j,c,h=>.inl h
 | g0::l,j,c,h=>by
  simp only[Yo]at h
  rcases Qz4 h with h1 | ⟨k,g,h1,h2,h3⟩
  ·cases hE:E j with
   | false=>rw[hE]at h1; exact .inl h1
   | true =>
    rw[hE]at h1
    simp only[cond_true,upC]at h1
    cases hl:Qlo g0.ups id with
    | none=>rw[hl]at h1; exact .inl h1
    | some x=>rw[hl]at h1; simp only at h1; subst h1; exact .inr ⟨0,g0,rfl,hE,hl⟩
  ·exact .inr ⟨k+1,g,by simpa using h1,by rw[show j+(k+1)=j+1+k by omega]; exact h2,h3⟩
end Gx

/- A region of open order by ordinary steps: sound. -/
namespace Gx
open Go Go.RowKit Gd
set_option linter.unusedVariables false
set_option linter.unusedSimpArgs false
theorem Qtt:∀{hs:List HD} {i:Nat},(∃hc∈hs,i∈hc.bs)→i∈Kg hs
 | [],i,⟨_,h,_⟩=>by cases h
 | h::l,i,⟨hc,hm,hi⟩=>by
  rcases QJ.1 hm with rfl | hm
  ·exact List.mem_append_left _ hi
  ·exact List.mem_append_right _ (Qtt ⟨hc,hm,hi⟩)
theorem Q4o{l0:List Oper}{hs:List HD}(h:Jpe l0 hs=true){i j:Nat}{hi hj:HD}(h1:hs[i]?=some hi)(h2:hs[j]?=some hj)(ry:j<i):Qht l0 i j hi hj=true:=by
 have td:=(List.getElem?_eq_some_iff.1 h1).1
 have:=QO.1 (QO.1 h i (JV.2 td)) j (JV.2 ry)
 rw[h1,h2]at this
 exact this
theorem Jpn{l0:List Oper}{hs:List HD}(h:nmB l0 hs=true){i j:Nat}{hi hj:HD}(h1:hs[i]?=some hi)(h2:hs[j]?=some hj)(ry:i≠j):Qag hi.bs hj.nm=true∨Ff l0 l0.length j i=true:=by
 have td:=(List.getElem?_eq_some_iff.1 h1).1
 have tr:=(List.getElem?_eq_some_iff.1 h2).1
 have:=QO.1 (QO.1 h i (JV.2 td)) j (JV.2 tr)
 rw[h1,h2]at this
 simp_all
theorem Qtu{m:List (Nat×Ob)}{i:Nat}:∀{l:List (Nat×Ob)},i∈Jg l→i∈Jg (l++m)
 | [],h=>by cases h
 | (k,x)::l,h=>by
  have key:∀{xs:List Nat},i∈xs++Jg l→i∈xs++Jg (l++m):=fun {xs} h=>by
   rcases QX.1 h with h | h
   ·grind
   ·exact List.mem_append_right _ (Qtu h)
  cases x with
  | var t c=>have:=key (xs:=k::Jb c) (by grind [Jg]); grind [Jg]
  | mapC a b xs hole =>
   cases hole with
   | none=>have:=key (xs:=[k]) (by simpa[Jg]using h); simp_all [Jg]
   | some q=>have:=key (xs:=[k,q.2]) (by grind [Jg]); grind [Jg]
  | _=>have:=key (xs:=[k]) (by simpa[Jg]using h); grind [Jg]
theorem Qp4{m:List (Nat×Ob)}{i:Nat}(h:i∈Jg m):∀{l:List (Nat×Ob)},i∈Jg (l++m)
 | []=>h
 | (k,x)::l=>by
  have ih:=Qp4 h (l:=l)
  cases x with
  | var t c=>grind [Jg,List.mem_append_right]
  | mapC a b xs hole =>
   cases hole with
   | none=>simp_all [QA,Jg]
   | some q=>grind [Jg]
  | _=>grind [Jg]
theorem Qp5{E E':Nat→Bool}:∀{acc:List EC} {j:Nat},(∀k,k<acc.length→E (j+k)=E' (j+k))→Du E acc j=Du E' acc j
 | [],_,_=>rfl
 | g::l,j,h=>by
  have h0:=h 0 (by simp)
  rw[JP]at h0
  have ih:Du E l (j+1)=Du E' l (j+1):=Qp5 fun k hk=>by
   have:=h (k+1) (by grind)
   rwa[show j+(k+1)=j+1+k by omega]at this
  grind [Du]
theorem Qtv:∀{acc:List EC} {j:Nat},Du (fun _=>false) acc j=[]
 | [],_=>rfl
 | g::l,j=>by simp only[Du,Bool.false_and,cond_false]; exact Qtv
theorem Jar{Zs:List (Nat×Ob)}{bs:List Nat}{acc:List EC}(hN:(Y6 Zs++bs).Nodup):Fk (Y6 Zs++bs) Zs acc (fun _=>false)=Zs:=by
 unfold Fk
 have h0:∀id c,Yo (fun _=>false) id acc 0 c=c:=fun id c=>La fun _ _ _ _=>rfl
 obtain⟨n1,n2,n3⟩:=List.nodup_append.1 hN
 rw[JQ]
 have e2:(bs.filterMap fun id=>Zm id (Yo (fun _=>false) id acc 0 (Qe Zs id)))=[]:=by
  rw[XR]
  intro d hd
  rw[h0]
  cases hl:Qe Zs d with
  | none=>rfl
  | some ob=>exact absurd rfl (n3 d (Qbz (by rw[hl]; rfl)) d hd)
 rw[e2,QH]
 unfold Y6
 rw[List.filterMap_map]
 simp_all [Yv,ZD,Function.comp,Qf0,Zm]
section
variable {P:Program} {Y:TX} {X:Cx} {K:List Con} {n:Nat} {l0:List Oper} {ds:List Nat} {Zs Mb:List (Nat×Ob)} {B:List En} {prA prB:List Nat} {R:Type} {r:R} {β:Nat→Nat} {ρ:Nat→Value} {a:Act} {w:World}
theorem Q4p(hT:Q6 P Y.T)(kz:P.follows .mixedOrders=true)(hK:KsX P Y X K)(hX:X.n=n)(hr:X.res=[])(hp:X.pin=none){ht:HT}{p:Nat}(h:Rel X β ρ ⟨B,Zs++Mb⟩ a w)
  (hBt:∀e∈B,∀d∈ds,d<n→e.t≠d∧∀c∈e.cs,c.1≠d) (hBi:∀e∈B,∀i∈Jb e.av,i∈prB) (hMi:∀i∈Jg (Zs++Mb),i∈prB)
  (hb:Q62 l0 p ds=true) {k:Hn→List HD→List EC→Option R} (hs:Qpb Y K n l0 ds Zs B prA ht (l0.take p) 0 [] [] k=some r)
  (rm:∀h zw acc,k h zw acc=some r→Jja l0 (Y6 Zs) prB prA zw=true) (hpA:∀i∈prB,i∈prA) {id:Nat} {Q:Exit→Act→World→Prop}
  (H:∀β' ρ' a' w' h zw acc,k h zw acc=some r→(∀(x:Nat),(∀hc∈zw,x∉hc.wr)→∀g∈acc,Zd x g=false)→(∀x∈Kg zw,x∈Bs ht)→agP prB β β' ρ ρ'→Rel X β' ρ' ⟨Du Wq acc 0++B,Fk (Y6 Zs++Kg zw) Zs acc Wq++Mb⟩ a' w'→wpList P ⟨l0⟩ Q (l0.drop p) a' w'):(Code.region id ⟨l0⟩ true).wp P Q a w:=by
 unfold Q62 at hb
 simp only[QQ]at hb
 obtain⟨⟨⟨⟨pf,hlen⟩,r0⟩,ye⟩,ba⟩:=hb
 have yf:=Qsx ba
 have mq:=QK pf
 have hdl:=Nat.eq_of_beq_eq_true hlen
 obtain⟨hn,zw,acc,hk,htr,hbT⟩:=Qnz hs
 simp only[QU]at hk
 have ly:=rm _ _ _ hk
 unfold Jja at ly
 simp only[QQ]at ly
 obtain⟨⟨⟨⟨⟨pg,hnm⟩,hNb⟩,hapB⟩,hNAb⟩,bc⟩:=ly
 have hN:=P9 hNb
 have hNA:∀i∈Y6 Zs++Kg zw,i∈prA:=fun i hi=>E3 hNAb i hi
 have hprB:∀i∈prB,i∈prA∧i∉Kg zw:=fun i hi=>⟨hpA i hi,fun h2=>Cv hapB hi h2⟩
 have lz:∀hc∈zw,Lk hc.al=true∧Wt (Y6 Zs++Kg zw) hc.al=true∧Wt prA hc.nm=true:=fun hc hm=>by
  have:=QO.1 bc hc hm
  grind
 have hNm:∀hc∈zw,∀i∈hc.nm,i∈prA:=fun hc hm i hi=>E3 (lz hc hm).2.2 i hi
 have hal:∀hc∈zw,(hc.tch++hc.ro++hc.bs).Nodup∧∀i∈hc.tch++hc.ro++hc.bs,i∈Y6 Zs++Kg zw:=fun hc hm=>⟨P9 (lz hc hm).1,fun i hi=>E3 (lz hc hm).2.1 i hi⟩
 obtain⟨hal1,hal2,ze⟩:=htr.get
 have hap:acc.length=p:=by rw[hal1,List.length_take]; omega
 simp only[QU,QV]at ze
 have bd:∀(i:Nat) o,i<p→l0[i]?=some o→∃g hc S1,acc[i]?=some g∧zw[i]?=some hc∧Yt (R:=XS) Y K n l0 hc.h [o] (Qpa l0 ds Zs B prA hc o i (acc.take i)) some=some S1∧Qfy n ds Zs hc o i (acc.take i) S1=some g:=fun i o hi ho=>ze i o (by rw[JJ,if_pos hi]; exact ho)
 have qs:∀(j:Nat) g,acc[j]?=some g→j<p∧∃o hc S1,l0[j]?=some o∧zw[j]?=some hc∧Qfy n ds Zs hc o j (acc.take j) S1=some g:=fun j g hg=>by
  have hj:j<p:=by have:=(List.getElem?_eq_some_iff.1 hg).1; omega
  obtain⟨g',hc,S1,q1,q2,_,q4⟩:=bd j l0[j] hj (List.getElem?_eq_getElem (by omega))
  rw[hg]at q1; grind
 have bf:∀(j:Nat) g hc x,acc[j]?=some g→zw[j]?=some hc→Zd x g=true→x∈hc.wr:=fun j g hc x hg hh ht=>by
  obtain⟨_,o,y8,S1,_,q2,q3⟩:=qs j g hg
  rw[hh]at q2; injection q2 with q2; subst q2
  unfold Zd at ht
  rw[(Lb q3).2.2.1,Ra]at ht
  by_cases hm:x∈hc.tch++hc.bs
  ·exact hm
  simp_all [if_neg,Ht]
 have l4:∀(j:Nat) g,acc[j]?=some g→ds[j]?=some g.d:=fun j g hg=>by
  obtain⟨hj,o,hc,S1,_,_,q3⟩:=qs j g hg
  exact Jam (by omega) (Lb q3).2.2.2.1
 have nd:∀(x:Nat),(∀hc∈zw,x∉hc.wr)→∀g∈acc,Zd x g=false:=fun x hx g hg=>by
  grind [List.getElem?_of_mem,Zd,absurd,List.mem_of_getElem?]
 refine Q4m (fun E a w=>∃β' ρ',agP prB β β' ρ ρ'∧Rel X β' ρ' ⟨Du E acc 0++B,Fk (Y6 Zs++Kg zw) Zs acc E++Mb⟩ a w) kz p (fun E E' a w hE ⟨β',ρ',q1,q2⟩=>⟨β',ρ',q1,?_⟩) pf r0 ye ⟨β,ρ,agP.refl _ _ _,?_⟩ (fun E i o a w Q' ez ho xg hEi tf ⟨β1,ρ1,xi,hR⟩ hQ=>?_) fun a' w' ⟨β',ρ',q1,q2⟩=>H β' ρ' a' w' hn zw acc hk nd hbT q1 q2
 ·have e1:Du E acc 0=Du E' acc 0:=Qp5 fun k hk=>by rw[QV]; grind
  have e2:Fk (Y6 Zs++Kg zw) Zs acc E=Fk (Y6 Zs++Kg zw) Zs acc E':=Yv fun id _=>by
   rw[Ls (E:=E) (E':=E') fun k e hk _=>by rw[QV]; grind]
  rw[e1,e2]at q2
  exact q2
 ·rw[Qtv,Jar hN]
  exact Sb.below h ((Below.refl _ _).drew)
 ·obtain⟨g,hc,S1,hg,jz,ka,zj⟩:=bd i o ez ho
  obtain⟨t1,t2,t3,t4,t5,t6,t7,t8⟩:=Lb zj
  obtain⟨al1,al2⟩:=hal hc (List.mem_of_getElem? jz)
  have hlateB:∀j,Ff l0 l0.length j i=true→E j=false:=fun j hbj=>by
   cases hE:E j with
   | false=>rfl
   | true =>
    have:E i=true:=Py xg l0.length j i hbj fun o' wg e he yu=>xg j o' hE wg e he yu
    rw[hEi]at this; cases this
  have hearB:∀j,Ff l0 l0.length i j=true→E j=true:=fun j hbj=>Py xg l0.length i j hbj fun o' wg e he yu=>by rw[ho]at wg; grind
  have u0:∀id∈hc.tch++hc.ro++hc.bs,∀(j:Nat) g',acc[j]?=some g'→i<j→Zd id g'=true→E j=false:=fun id hm j g' hj vk ht=>by
   obtain⟨aq,oj,tg,S1j,p1,p2,p3⟩:=qs j g' hj
   have hw:=bf j g' tg id hj p2 ht
   have zh:=Q4o pg p2 jz vk
   unfold Qht at zh
   simp only[QQ,JZ]at zh
   rcases zh.1 with⟨s1,s2⟩ | s1
   ·exfalso
    rcases QX.1 hm with hm | hm
    ·rcases QX.1 hm with hm | hm
     ·exact Cv s1 (List.mem_append_left _ hm:id∈hc.wr) (by
       rcases QX.1 hw with q | q
       ·exact List.mem_append_left _ (List.mem_append_left _ q)
       ·exact List.mem_append_right _ q)
     grind [Cv]
    ·exact Cv s1 (List.mem_append_right _ hm:id∈hc.wr) (by
       rcases QX.1 hw with q | q
       ·exact List.mem_append_left _ (List.mem_append_left _ q)
       ·exact List.mem_append_right _ q)
   grind
  have uv:∀id∈hc.tch++hc.ro,∀(j:Nat) g',acc[j]?=some g'→j<i→Zd id g'=true→E j=true:=fun id hm j g' hj vk ht=>by
   obtain⟨aq,oj,tg,S1j,p1,p2,p3⟩:=qs j g' hj
   have hw:=bf j g' tg id hj p2 ht
   have zh:=Q4o pg jz p2 vk
   unfold Qht at zh
   simp only[QQ,JZ]at zh
   rcases zh.1 with⟨s1,s2⟩ | s1
   ·exact(Cv s1 hw (List.mem_append_left _ hm)).elim
   grind
  have hbsA:∀id∈hc.bs,id∈Kg zw:=fun id hm=>Qtt ⟨hc,List.mem_of_getElem? jz,hm⟩
  have nr:∀id∈hc.bs,Yo E id acc 0 (Qe Zs id)=none:=fun id hm=>by
   have hz:Qe Zs id=none:=by
    cases hl:Qe Zs id with
    | none=>rfl
    | some ob=>exact absurd rfl ((List.nodup_append.1 hN).2.2 id (Qbz (by rw[hl]; rfl)) id (hbsA id hm))
   rw[hz]
   refine La fun j g' hj ht=>?_
   rw[QV]
   rcases Nat.lt_trichotomy j i with ry | ry | ry
   ·obtain⟨aq,oj,tg,S1j,p1,p2,p3⟩:=qs j g' hj
    have zh:=Q4o pg jz p2 ry
    unfold Qht at zh
    simp only[QQ]at zh
    grind [Cv,id]
   ·rw[ry]; exact hEi
   grind
  have bg:∀x∈prB,x∈Qhu prA hc.bs:=fun x hx=>by
   obtain⟨q1,q2⟩:=hprB x hx
   refine QI.2 ⟨q1,?_⟩
   grind [Yd,absurd,Qhz]
  have bh:∀(j:Nat) g',acc[j]?=some g'→E j=true→∀tg,zw[j]?=some tg→∀x∈tg.nm,x∈Qhu prA hc.bs:=fun j g' hj hE tg p2 x hx=>by
   refine QI.2 ⟨hNm tg (List.mem_of_getElem? p2) x hx,?_⟩
   cases hm:Yd hc.bs x with
   | false=>rfl
   | true =>
    have vk:i≠j:=fun e=>by grind
    rcases Jpn hnm jz p2 vk with q | q
    ·grind [Cv,Qhz]
    grind
  refine Jfa hK.2 hr hp (S1:=S1) (tch:=hc.tch) (ro:=hc.ro) (bs:=hc.bs) (pr:=Qhu prA hc.bs) (Ve:=Qo9 l0 ds i (acc.take i) B (Q4c o++gTs l0 o)) hR hg hEi hN al1 al2 uv u0 nr (fun e he=>?_) t3 t7 (fun d hd=>(t6 d hd).1) t1 (fun e he=>?_) (fun x hx=>?_) (fun X1 Q1 x1 x2 x3 x4 x5 x6=>?_) fun β' ρ' a' w' y1 y2=>hQ a' w' ⟨β',ρ',agP.trans xi fun x hx=>y1 x (bg x hx),y2⟩
  ·rcases Rb he with⟨v1,v2,v3⟩ | v1
   ·obtain⟨g',m1,m2,m3,m4⟩:=Qtr v2
    obtain⟨j,hj⟩:=List.getElem?_of_mem m1
    rw[JJ]at hj
    split at hj
    ·rename_i ry
     have qa:=l4 j g' hj
     have hix:ds.idxOf e.t=j:=by
      have tr:=(List.getElem?_eq_some_iff.1 qa).1
      have:=yf.idxOf_getElem j tr
      rw[(List.getElem?_eq_some_iff.1 qa).2,m2]at this
      exact this
     rw[hix]at v3
     have hEj:E j=true:=by
      simp only[Q6k,ho]at v3
      obtain⟨e',qu,yu⟩:=List.any_eq_true.1 v3
      simp only[QQ]at yu
      rw[←Nat.eq_of_beq_eq_true yu.2]
      grind
     refine List.mem_append_left _ ?_
     have:=Qwe (E:=E) (acc:=acc) (j:=0) (k:=j) hj (by rw[QV]; exact hEj) m3
     obtain⟨et,ecs,eav⟩:=e
     grind
    ·cases hj
   grind
  ·rcases QX.1 he with he | he
   ·obtain⟨j,g',q1,q2,q3,rfl⟩:=Qh4 he
    rw[QV]at q2
    obtain⟨aq,oj,tg,S1j,p1,p2,p3⟩:=qs j g' q1
    refine⟨fun x hx=>bh j g' q1 q2 tg p2 x (E3 (Lb p3).2.2.2.2.1 x hx),fun d hd=>⟨fun e=>?_,by simp⟩⟩
    have e1:=(t6 d hd).1
    have d1:=l4 j g' q1
    have d2:=l4 i g hg
    have vk:j=i:=by
     obtain⟨b1,c1⟩:=List.getElem?_eq_some_iff.1 d1
     obtain⟨b2,c2⟩:=List.getElem?_eq_some_iff.1 d2
     have a1:=yf.idxOf_getElem j b1
     have a2:=yf.idxOf_getElem i b2
     rw[show ds[j]=ds[i]from c1.trans (e.trans (e1.trans c2.symm))]at a1
     grind
    rw[vk,hEi]at q2; cases q2
   grind
  ·rcases Qb1 hx with hx | hx
   ·obtain⟨id,h1,ob,h2,h3⟩:=Qp3 hx
    rcases Qz4 h2 with h6 | ⟨j,g',q1,q2,q3⟩
    ·exact bg x (hMi x (Qtu (Qts h6 h3)))
    ·rw[QV]at q2
     obtain⟨aq,oj,tg,S1j,p1,p2,p3⟩:=qs j g' q1
     refine bh j g' q1 q2 tg p2 x (E3 (Lb p3).2.1 x ?_)
     rw[(Lb p3).2.2.1,Ra]at q3
     split at q3
     ·exact Qts (Option.some.inj q3) h3
     ·cases q3
   grind [Qp4]
  ·have qb:(Qpa l0 ds Zs B prA hc o i (acc.take i)).flat=⟨Qo9 l0 ds i (acc.take i) B (Q4c o++gTs l0 o),Qe4 hc.tch Zs (acc.take i)++Qe4 hc.ro Zs (acc.take i)⟩:=by
    simp only[XS.flat,Qpa,QH]
   have:=Vc hT (X:=X1) ⟨hK.1,x4⟩ (x1.trans hX) x2 (Q:=Q1) hc.h (l:=[o]) (rest:=[]) (S:=Qpa l0 ds Zs B prA hc o i (acc.take i)) (a:=a) (w:=w) (by rw[qb]; exact x5) ka fun β' ρ' S' a' w' k1 k2 k3=>by
    simp only[Option.some.injEq]at k1
    subst k1
    have kf:S'.fix=[]:=k2.fix
    have km:S'.fixM=Qe4 hc.ro Zs (acc.take i):=k2.fixM
    refine x6 β' ρ' a' w' k2.ag ?_
    have e:S'.flat=⟨S'.env,S'.mem++Qe4 hc.ro Zs (acc.take i)⟩:=by simp only[XS.flat,kf,km,QH]
    rw[e]at k3
    exact k3
   simpa using this
end
end Gx

/- A region of open order by ordinary steps, as the interpreter walks it. -/
namespace Gx
open Go Go.RowKit Gd
set_option linter.unusedVariables false
set_option linter.unusedSimpArgs false
theorem Qb2{M:List (Nat×Ob)}:∀{B:List En} {e:En},e∈Q93 M B→∃e0∈B,e=⟨e0.t,e0.cs,Oj M e0.av⟩
 | [],e,h=>by cases h
 | e0::l,e,h=>by
  simp only[Q93]at h
  cases hb:Qv5 M (Qs6 e0.av)with
  | true =>
   rw[hb]at h
   rcases QJ.1 h with rfl | h
   ·grind
   ·obtain⟨e1,h1,h2⟩:=Qb2 h
    grind
  | false =>
   rw[hb]at h
   obtain⟨e1,h1,h2⟩:=Qb2 h
   grind
theorem Jk6{α:Type}(a b c d:List α):((a++b)++(c++d)).Perm ((a++c)++(b++d)):=by
 rw[List.append_assoc,List.append_assoc]
 refine List.Perm.append_left a ?_
 rw[←List.append_assoc,←List.append_assoc]
 exact List.perm_append_comm.append_right d
theorem Qtw{E:Nat→Bool}{id:Nat}:∀{l:List EC} {j:Nat} {c:Option Ob},(∀g∈l,Zd id g=false)→Yo E id l j c=c
 | [],j,c,_=>rfl
 | g::l,j,c,h=>by
  simp only[Yo]
  rw[Q4n (h g (.head _))]
  rw[show(bif E j then c else c)=c by cases E j<;>rfl]
  exact Qtw fun g' hg=>h g' (.tail _ hg)
theorem Qb3{l m:List Nat}{Zs:List (Nat×Ob)}{acc:List EC}{E:Nat→Bool}:Fk (l++m) Zs acc E=Fk l Zs acc E++Fk m Zs acc E:=JQ
theorem Qwf{l m:List (Nat×Ob)}:Y6 (l++m)=Y6 l++Y6 m:=QB
section
variable {P:Program} {Y:TX} {X:Cx} {K:List Con} {n:Nat} {l0:List Oper} {ds:List Nat} {R:Type} {r:R} {β:Nat→Nat} {ρ:Nat→Value} {a:Act} {w:World}
theorem Jjk{B:List En}{M Z:List (Nat×Ob)}(h:Rel X β ρ ⟨B,M++Z⟩ a w):Rel X β ρ ⟨Q93 M B++B,M++Z⟩ a w:=by
 refine Rel.ofSb h rfl fun e he=>?_
 rcases QX.1 he with he | he
 ·obtain⟨e0,h0,rfl⟩:=Qb2 he
  obtain⟨h1,h2⟩:=h.en h0
  refine⟨fun hc=>?_,h2⟩
  obtain⟨cs,q1,q2⟩:=h1 hc
  exact⟨cs,by rw[q1,Qzz],S6 (fun id o ho=>h.mm id o (Q4 ho)) q2⟩
 ·exact h.en he
theorem Q4q(hT:Q6 P Y.T)(kz:P.follows .mixedOrders=true)(hK:KsX P Y X K)(hX:X.n=n)(hr:X.res=[])(hp:X.pin=none){S:XS}(h:Rel X β ρ S.flat a w){p:Nat}{zs zf:List Nat}{ht:HT}
  (hb:Q62 l0 p ds=true) (l5:(ds.all fun d=>Qbv d S.fix)=true) {k:Hn→XS→Option R}
  (hs:dcI Y K n l0 p ds (Jl S.mem zs).2 (Jl S.fixM zf).2 (Jl S.mem zs).1 (Jl S.fixM zf).1 ht S (Qln S.env (ds++Bs ht)++S.fix) k=some r) {id:Nat} {Q:Exit→Act→World→Prop}
  (H:∀(β':Nat→Nat) (ρ':Nat→Value) (S':XS) (a':Act) (w':World) (h':Hn),k h' S'=some r→Yx S S' β β' ρ ρ'→Rel X β' ρ' S'.flat a' w'→wpList P ⟨l0⟩ Q (l0.drop p) a' w'):(Code.region id ⟨l0⟩ true).wp P Q a w:=by
 have hm:=Zo zs S.mem
 have hf:=Zo zf S.fixM
 revert hs hm hf
 generalize (Jl S.mem zs).2=Z1
 generalize (Jl S.mem zs).1=M1
 generalize (Jl S.fixM zf).2=Z2
 generalize (Jl S.fixM zf).1=F1
 intro hs hm hf
 unfold dcI dcR at hs
 have rj:S.flat.mem.Perm ((Z1++Z2)++(M1++F1)):=(hm.symm.append hf.symm).trans (Jk6 Z1 M1 Z2 F1)
 have hBm:∀e∈Qln S.env (ds++Bs ht)++S.fix,e∈S.flat.env∧∀d∈ds,e.t≠d∧∀c∈e.cs,c.1≠d:=fun e he=>by
  rcases QX.1 he with he | he
  ·obtain⟨q1,q2⟩:=Qtq he
   exact⟨List.mem_append_left _ q1,fun d hd=>(q2 d (List.mem_append_left _ hd)).2⟩
  ·exact⟨List.mem_append_right _ he,fun d hd=>Qbx (QO.1 l5 d hd) e he⟩
 have h1:Rel X β ρ ⟨Qln S.env (ds++Bs ht)++S.fix,(M1++F1)++(Z1++Z2)⟩ a w:=Rel.permM (Rel.less h fun e he=>(hBm e he).1) (rj.trans JK)
 have h2:=Rel.permM (Jjk h1) (JK (l₁:=M1++F1) (l₂:=Z1++Z2))
 refine Q4p hT kz hK hX hr hp (prB:=Oi (Qln S.env (ds++Bs ht)++S.fix)++Jg ((Z1++Z2)++(M1++F1))++S.prot) (Mb:=M1++F1) h2 (fun e he d hd _=>?_) (fun e he i hi=>?_) (fun i hi=>List.mem_append_left _ (List.mem_append_right _ hi)) hb hs
  (fun hh zw acc hk=>?_) (fun i hi=>List.mem_append_left _ (List.mem_append_left _ hi)) fun β' ρ' a' w' hh zw acc hk nd hbT xi hR=>?_
 ·rcases QX.1 he with he | he
  ·obtain⟨e0,q1,rfl⟩:=Qb2 he
   grind
  grind
 ·refine List.mem_append_left _ (List.mem_append_left _ ?_)
  rcases QX.1 he with he | he
  ·obtain⟨e0,q1,rfl⟩:=Qb2 he
   exact Qzw q1 (Qh2 hi)
  ·exact Qzw he hi
 ·have:=(bvT hk).1
  grind
 ·obtain⟨vt,hk⟩:=bvT hk
  simp only[QQ]at vt
  obtain⟨vt,hkf⟩:=vt
  have yf:(Y6 (Z1++Z2)).Nodup:=by
   unfold Jja at vt
   simp only[QQ]at vt
   grind [List.nodup_append,P9]
  refine H β' ρ' _ a' w' hh hk ⟨rfl,rfl,rfl,fun i hi=>xi i (List.mem_append_right _ hi)⟩ ?_
  have e2:Fk (Y6 Z2) (Z1++Z2) acc Wq=Z2:=by
   unfold Fk Y6
   rw[List.filterMap_map]
   refine(Yv (f:=some) fun q hq=>?_).trans ZD
   have ai:q.1∈Y6 Z2:=QZ.2 ⟨q,hq,rfl⟩
   have hl:=Qf0 yf q (List.mem_append_right _ hq)
   simp only[Function.comp,hl]
   rw[Qtw fun g hg=>nd q.1 (fun hc tn hw=>Cv (QO.1 hkf hc tn) hw ai) g hg]
   rfl
  have e1:Fk (Y6 (Z1++Z2)++Kg zw) (Z1++Z2) acc Wq=(Fk (Y6 Z1) (Z1++Z2) acc Wq++Z2)++Fk (Kg zw) (Z1++Z2) acc Wq:=by
   rw[Qb3,Qwf,Qb3,e2]
  have e3:Fk (Y6 Z1++Kg zw) (Z1++Z2) acc Wq=Fk (Y6 Z1) (Z1++Z2) acc Wq++Fk (Kg zw) (Z1++Z2) acc Wq:=Qb3
  rw[e1]at hR
  have ru:(((Fk (Y6 Z1) (Z1++Z2) acc Wq++Z2)++Fk (Kg zw) (Z1++Z2) acc Wq)++(M1++F1)).Perm ((Fk (Y6 Z1++Kg zw) (Z1++Z2) acc Wq++M1)++S.fixM):=by
   rw[e3]
   have p1:((Fk (Y6 Z1) (Z1++Z2) acc Wq++Z2)++Fk (Kg zw) (Z1++Z2) acc Wq).Perm ((Fk (Y6 Z1) (Z1++Z2) acc Wq++Fk (Kg zw) (Z1++Z2) acc Wq)++Z2):=by
    rw[List.append_assoc,List.append_assoc]
    exact List.Perm.append_left _ JK
   exact((p1.append_right _).trans (Jk6 _ _ _ _)).trans (List.Perm.append_left _ hf)
  refine Rel.less (Rel.permM hR ru) fun e he=>?_
  rcases QX.1 he with he | he
  ·rcases QX.1 he with he | he
   ·grind
   grind
  ·exact List.mem_append_right _ (List.mem_append_right _ (List.mem_append_right _ he))
end
end Gx

/- Ranges over maps: what is set aside in a round; the entries that are left. -/
namespace Gx
open Go Go.RowKit Gd
set_option linter.unusedVariables false
set_option linter.unusedSimpArgs false
section
variable {P:Program} {Y:TX} {X:Cx} {β β':Nat→Nat} {ρ ρ':Nat→Value} {S S':St} {a a':Act} {w w':World} {Dx:List DF} {F:List TL}
def Qj1(X:Cx)(β:Nat→Nat)(ρ:Nat→Value)(S:St)(Dx:List DF)(F:List TL)(a:Act)(w:World):Prop :=
 Sb (fun _=>0) X [] (Dx++S.env.map (enD β ρ a)) [] (Qi β ρ S.mem++F) a w
abbrev okF(X:Cx)(β:Nat→Nat)(ρ:Nat→Value)(mem:List (Nat×Ob))(F:List TL)(w:World):Ok:=Jh X.ok X.w.heap.size (fun _=>0) [] (Qi β ρ mem++F) w
theorem Qj1.en(h:Qj1 X β ρ S Dx F a w){e:En}(he:e∈S.env):(enD β ρ a e).p (okF X β ρ S.mem F w) w:=Yc.1 h.dat _ (List.mem_append_right _ (QZ.2 ⟨e,he,rfl⟩))
theorem Qj1.act(h:Qj1 X β ρ S Dx F a w){env':List En}(hs:a'.tmps.size=a.tmps.size)(hd:a'.defers=a.defers)(hr:X.res=[])
  (he:∀e∈env',(enD β ρ a' e).p (okF X β ρ S.mem F w) w):Qj1 X β ρ ⟨env',S.mem⟩ Dx F a' w :=
 {sz:=hs.trans h.sz,df:=hd.trans h.df,fr:=by rw[hr]; simp,pn:=h.pn,tm:=by simp,bel:=h.bel,
  dat:=Yc.2 fun d hd=>by
   rcases QX.1 hd with hd | hd
   ·exact Yc.1 h.dat _ (List.mem_append_left _ hd)
   grind,
  obj:=h.obj,own:=h.own,dHH:=h.dHH,dHO:=h.dHO,dOO:=h.dOO }
theorem Qj1.en_put(h:Qj1 X β ρ S Dx F a w){d:Nat}(v:Value){e:En}(he:e∈Yy S.env d):(enD β ρ (a.put (some d) v) e).p (okF X β ρ S.mem F w) w:=by
 obtain⟨h1,h2,h3⟩:=Lg he
 have yc:Js (a.put (some d) v) e.cs↔Js a e.cs:=⟨fun hc c hm=>by rw[←Yz (h3 c hm) v]; exact hc c hm,fun hc c hm=>by rw[Yz (h3 c hm) v]; exact hc c hm⟩
 refine⟨fun hc=>?_,?_⟩
 ·obtain⟨cs,h4,h5⟩:=(h.en h1).1 (yc.1 hc)
  grind [Qhe]
 ·rw[yc,Qhe h2]; exact(h.en h1).2
theorem Qj1.del(h:Qj1 X β ρ S Dx F a w)(hr:X.res=[]){d:Nat}(v:Value):Qj1 X β ρ ⟨Yy S.env d,S.mem⟩ Dx F (a.put (some d) v) w :=
 h.act (by simp[Act.put]) rfl hr fun e he=>h.en_put v he
theorem Qj1.put0(h:Qj1 X β ρ S Dx F a w)(hr:X.res=[]){d:Nat}(hd:okD X d=true){x:AV}{c:List Value}(hx:cr β ρ (okF X β ρ S.mem F w) w false x c):Qj1 X β ρ ⟨⟨d,[],x⟩::Yy S.env d,S.mem⟩ Dx F (a.put (some d) (x.val c)) w:=by
 refine h.act (by simp[Act.put]) rfl hr fun e he=>?_
 rcases QJ.1 he with rfl | he
 ·refine⟨fun _=>⟨c,?_,hx⟩,.inl (Qd _)⟩
  rw[Nm (Qds hd)]
  simp[Act.put,h.sz,Qoh hd]
 ·exact h.en_put _ he
end
end Gx

/- Ranges over maps: the rounds. -/
namespace Gx
open Go Go.RowKit Gd
set_option linter.unusedVariables false
set_option linter.unusedSimpArgs false
section
section
variable {P:Program} {Y:TX} {X:Cx} {S:XS} {β β':Nat→Nat} {ρ ρ':Nat→Value} {a a':Act} {w w':World} {n N:Nat} {K:List Con}
variable {Q:Exit→Act→World→Prop} {R:Type} {r:R}
def Ex.exit:Ex→Exit
 | .n=>.normal
 | .x i=>.exit i
 | .r=>.ret
theorem Ex.beq_ok{a b:Ex}(h:Ex.beq a b=true):a=b:=by
 cases a<;>cases b<;>simp[Ex.beq]at h<;>first | rfl | (rw[h])
def COk(Q:Exit→Act→World→Prop)(X:Cx)(S0:XS)(β:Nat→Nat)(ρ:Nat→Value){R:Type}(k:Ex→XS→Option R)(r:R):Prop :=
 ∀(e:Ex) (β':Nat→Nat) (ρ':Nat→Value) (S':XS) (a':Act) (w':World),k e S'=some r→Yx S0 S' β β' ρ ρ'→Rel X β' ρ' S'.flat a' w'→Q e.exit a' w'
theorem COk.after{k:Ex→XS→Option R}(h:COk Q X S β ρ k r){S1:XS}{β1:Nat→Nat}{ρ1:Nat→Value}(hk:Yx S S1 β β1 ρ ρ1):COk Q X S1 β1 ρ1 k r :=
 fun e β' ρ' S' a' w' h1 h2 h3=>h e β' ρ' S' a' w' h1 (hk.trans h2) h3
theorem Qj2{k:Ex→XS→Option R}(ks ms:List Nat):∀{l:Exs} {e:Ex} {S':XS} {x:Q37 l},inj l e S'=some x→Q38 S ks ms k l x=some r →
  S'.fix=(S.ent ks ms).fix∧S'.fixM=(S.ent ks ms).fixM∧S'.prot=(S.ent ks ms).prot→Rel X β ρ S'.flat a w →
  ∃β' ρ' S1,k e (S.out ks ms S1)=some r∧agP S.prot β β' ρ ρ'∧Rel X β' ρ' (S.out ks ms S1).flat a w
 | [q],e,S',x,hi,ho,hk,h=>by
  simp only[inj]at hi
  obtain⟨hb,hd⟩:=bvT hi
  have:=Ex.beq_ok hb
  subst this
  obtain⟨β',ρ',h1,h2⟩:=Oo (S0:=S.ent ks ms) h hk hd
  rw[←Qb0]at h2
  exact⟨β',ρ',enc q.2 x,ho,h1,h2⟩
 | q::q2::l,e,S',x,hi,ho,hk,h=>by
  simp only[inj]at hi
  cases hb:Ex.beq q.1 e with
  | true =>
   rw[hb]at hi
   have:=Ex.beq_ok hb
   subst this
   simp only[cond_true]at hi
   split at hi
   ·rename_i y hd
    injection hi with hi; subst hi
    obtain⟨β',ρ',h1,h2⟩:=Oo (S0:=S.ent ks ms) h hk hd
    rw[←Qb0]at h2
    exact⟨β',ρ',enc q.2 y,ho,h1,h2⟩
   ·cases hi
  | false =>
   rw[hb]at hi
   simp only[cond_false]at hi
   split at hi
   ·rename_i y hd
    injection hi with hi; subst hi
    exact Qj2 ks ms hd ho hk h
   ·cases hi
end
variable {P:Program} {Y:TX} {X:Cx} {n N:Nat} {K:List Con} {β:Nat→Nat} {ρ:Nat→Value} {a:Act} {w:World} {Q:Exit→Act→World→Prop} {R:Type} {r:R} {k:Ex→XS→Option R} {S1:XS}
theorem isVal{t:Ty}{ok:Ok}{x:t.De}{v:Value}(h:isV (rt t) ok w x v):∃c,v=(AV.d t x).val c∧cr β ρ ok w false (.d t x) c:=by
 obtain⟨cs,h1,h2⟩:=Qdt h
 exact⟨cs,h2,h1⟩
end
end Gx

/- Control. -/
namespace Gx
open Go Go.RowKit Gd
set_option linter.unusedVariables false
set_option linter.unusedSimpArgs false
section
variable {P:Program} {Y:TX} {X:Cx} {S:XS} {β β':Nat→Nat} {ρ ρ':Nat→Value} {a a':Act} {w w':World} {n N:Nat} {K:List Con}
variable {Q:Exit→Act→World→Prop} {R:Type} {r:R}
theorem Z7(hT:Q6 P Y.T)(kz:P.follows .mixedOrders=true):∀{X:Cx} (hK:KsX P Y X K) (hX:X.n=n) (hr:X.res=[]) (k5:X.pin=none) {R:Type} {r:R} (an:An) {c:Code} {S:XS} {β:Nat→Nat} {ρ:Nat→Value} {a:Act} {w:World} {k:Ex→XS→Option R} {Q:Exit→Act→World→Prop},
  Rel X β ρ S.flat a w→Zx Y K n N an c S k=some r→COk Q X S β ρ k r→c.wp P Q a w
 | X,hK,hX,hr,k5,R,r,.nil,c,S,β,ρ,a,w,k,Q,h,hs,H=>by
  cases c<;>simp only[Zx]at hs<;>first | (cases hs; done) | skip
  ·exact wp_skip (H .n β ρ S a w hs (Yx.refl _ _ _) h)
  ·rename_i id; exact wp_exit (H (.x id) β ρ S a w hs (Yx.refl _ _ _) h)
  ·exact wp_label (H .n β ρ S a w hs (Yx.refl _ _ _) h)
  ·exact wp_ret (H .r β ρ S a w hs (Yx.refl _ _ _) h)
 | X,hK,hX,hr,k5,R,r,.reg hn,c,S,β,ρ,a,w,k,Q,h,hs,H=>by
  cases c with
  | region id ops draw =>
   obtain⟨ops⟩:=ops
   cases draw with
   | true=>simp[Zx]at hs
   | false =>
    simp only[Zx]at hs
    refine wp_region_list ?_
    have:=Vc hT hK hX hr (Q:=Q) hn (l:=ops) (rest:=[]) h hs fun β' ρ' S' a' w' h1 h2 h3=>H .n β' ρ' S' a' w' h1 h2 h3
    grind
  | _=>simp[Zx]at hs
 | X,hK,hX,hr,k5,R,r,.dr m g1 g2,c,S,β,ρ,a,w,k,Q,h,hs,H=>by
  cases c with
  | region id ops draw =>
   obtain⟨ops⟩:=ops
   cases draw with
   | false=>simp[Zx]at hs
   | true =>
    simp only[Zx]at hs
    obtain⟨hb,hs⟩:=bvT hs
    have hm:P.follows .mixedOrders=true:=kz
    unfold Jeg at hb
    have tail:∀(β':Nat→Nat) (ρ':Nat→Value) (S':XS) (a':Act),Yt Y K n ops g2 (ops.drop m) S' (k .n)=some r→Yx S S' β β' ρ ρ'→Rel X β' ρ' S'.flat a' { w with drawn:=w.drawn+1 }→wpList P ⟨ops⟩ Q (ops.drop m) a' { w with drawn:=w.drawn+1 }:=by
     intro β' ρ' S' a' h1 h2 h3
     have:=Vc hT hK hX hr (Q:=Q) g2 (l:=ops.drop m) (rest:=[]) h3 h1 fun β2 ρ2 S2 a2 w2 q1 q2 q3=>H .n β2 ρ2 S2 a2 w2 q1 (h2.trans q2) q3
     grind
    cases hlt:Nat.blt m ops.length with
    | true =>
     rw[hlt]at hb
     refine wp_region_still_tail m hm hb ?_
     have:=S8 hT hX hr (w:={ w with drawn:=w.drawn+1 }) (Qs:=fun a'=>wpList P ⟨ops⟩ Q (ops.drop m) a' { w with drawn:=w.drawn+1 }) g1 (l:=ops.take m) (rest:=[]) h.drew hs fun β' ρ' S' a' h1 h2 h3=>tail β' ρ' S' a' h1 h2 h3
     grind
    | false =>
     rw[hlt]at hb
     simp only[cond_false,QQ]at hb
     have tn:=Nat.eq_of_beq_eq_true hb.1
     refine wp_region_still_lit hm hb.2 ?_
     have:=S8 hT hX hr (w:={ w with drawn:=w.drawn+1 }) (Qs:=fun a'=>wpList P ⟨ops⟩ Q (ops.drop m) a' { w with drawn:=w.drawn+1 }) g1 (l:=ops.take m) (rest:=[]) h.drew hs fun β' ρ' S' a' h1 h2 h3=>tail β' ρ' S' a' h1 h2 h3
     rw[tn]at this
     simp only[List.take_length,QH,XA]at this
     exact this
  | _=>simp[Zx]at hs
 | X,hK,hX,hr,k5,R,r,.dc p ds zs zf ht,c,S,β,ρ,a,w,k,Q,h,hs,H=>by
  cases c with
  | region id ops draw =>
   obtain⟨ops⟩:=ops
   cases draw with
   | false=>simp[Zx]at hs
   | true =>
    simp only[Zx]at hs
    obtain⟨hb,hs⟩:=bvT hs
    simp only[QQ]at hb
    refine Q4q hT kz hK hX hr k5 h hb.1 hb.2 hs fun β' ρ' S' a' w' h' h1 h2 h3=>?_
    have:=Vc hT hK hX hr (Q:=Q) h' (l:=ops.drop p) (rest:=[]) h3 h1 fun β2 ρ2 S2 a2 w2 q1 q2 q3=>H .n β2 ρ2 S2 a2 w2 q1 (h2.trans q2) q3
    grind
  | _=>simp[Zx]at hs
 | X,hK,hX,hr,k5,R,r,.ch t i x y,c,S,β,ρ,a,w,k,Q,h,hs,H=>by
  simp only[Zx]at hs
  cases hb:Jeh S t i with
  | true=>rw[hb]at hs; exact Z7 hT kz hK hX hr k5 x h hs H
  | false=>rw[hb]at hs; exact Z7 hT kz hK hX hr k5 y h hs H
 | X,hK,hX,hr,k5,R,r,.cn t x y,c,S,β,ρ,a,w,k,Q,h,hs,H=>by
  simp only[Zx]at hs
  cases hb:Jei S t with
  | true=>rw[hb]at hs; exact Z7 hT kz hK hX hr k5 x h hs H
  | false=>rw[hb]at hs; exact Z7 hT kz hK hX hr k5 y h hs H
 | X,hK,hX,hr,k5,R,r,.gh g x,c,S,β,ρ,a,w,k,Q,h,hs,H=>by
  simp only[Zx]at hs
  obtain⟨S1,β1,ρ1,q1,q2,q3⟩:=S7 g h hs
  exact Z7 hT kz hK hX hr k5 x q3 q1 (H.after q2)
 | X,hK,hX,hr,k5,R,r,.two x y,c,S,β,ρ,a,w,k,Q,h,hs,H=>by
  cases c<;>simp only[Zx]at hs<;>first | (cases hs; done) | skip
  ·rename_i c1 c2
   refine wp_seq (Z7 hT kz hK hX hr k5 x h hs fun e β' ρ' S' a' w' h1 h2 h3=>?_)
   cases e with
   | n=>exact Z7 hT kz hK hX hr k5 y h3 h1 (H.after h2)
   | x i=>exact H (.x i) β' ρ' S' a' w' h1 h2 h3
   | r=>exact H .r β' ρ' S' a' w' h1 h2 h3
  ·rename_i co c1 c2
   split at hs
   ·rename_i v hv
    obtain⟨cs,h1,h2⟩:=h.ev (Qd a) hv
    have zb:cs=_:=h2
    subst zb
    have k8:a.eval co=.bool v:=h1
    refine wp_cond_split k8 (fun hv=>?_) (fun hv=>?_)
    ·rw[if_pos hv]at hs
     exact Z7 hT kz hK hX hr k5 x h hs H
    ·rw[if_neg (by rw[hv]; simp)]at hs
     exact Z7 hT kz hK hX hr k5 y h hs H
   ·cases hs
 | X,hK,hX,hr,k5,R,r,.un x,c,S,β,ρ,a,w,k,Q,h,hs,H=>by
  cases c<;>simp only[Zx]at hs<;>first | (cases hs; done) | skip
  ·rename_i id c1
   refine wp_block (Z7 hT kz hK hX hr k5 x h hs fun e β' ρ' S' a' w' h1 h2 h3=>?_)
   cases e with
   | n=>exact H .n β' ρ' S' a' w' h1 h2 h3
   | x i =>
    simp only at h1
    show if i=id then Q .normal a' w' else Q (.exit i) a' w'
    cases hb:Nat.beq i id with
    | true =>
     rw[hb]at h1
     rw[if_pos (Nat.eq_of_beq_eq_true hb)]
     exact H .n β' ρ' S' a' w' h1 h2 h3
    | false =>
     rw[hb]at h1
     rw[if_neg (fun e=>by rw[e,Nat.beq_refl]at hb; cases hb)]
     exact H (.x i) β' ρ' S' a' w' h1 h2 h3
   | r=>exact H .r β' ρ' S' a' w' h1 h2 h3
  ·refine wp_scope_straight (Z7 hT kz hK hX hr k5 x h hs fun e β' ρ' S' a' w' h1 h2 h3=>?_)
   cases e with
   | n=>exact H .n β' ρ' S' a' w' h1 h2 h3
   | x i=>exact H (.x i) β' ρ' S' a' w' h1 h2 h3
   | r=>exact H .r β' ρ' S' a' w' h1 h2 h3
 | X,hK,hX,hr,k5,R,r,.jn ks ms exs x,c,S,β,ρ,a,w,k,Q,h,hs,H=>by
  simp only[Zx]at hs
  obtain⟨z,hz,ho⟩:=Yj hs
  refine Z7 hT kz hK hX hr k5 x (h.ent ks ms) hz fun e β' ρ' S' a' w' h1 h2 h3=>?_
  obtain⟨β2,ρ2,S1,h4,h5,h6⟩:=Qj2 ks ms h1 ho ⟨h2.fix,h2.fixM,h2.prot⟩ h3
  refine H e β2 ρ2 _ a' w' h4 ⟨rfl,rfl,rfl,?_⟩ h6
  exact agP.trans h2.ag h5
 | X,hK,hX,hr,k5,R,r,.lp ks ms Γ exs x,c,S,β,ρ,a,w,k,Q,h,hs,H=>by
  cases c<;>simp only[Zx]at hs<;>first | (cases hs; done) | skip
  rename_i c1
  split at hs
  ·rename_i s0 zw
   obtain⟨z,hz,ho⟩:=Yj hs
   obtain⟨β1,ρ1,h1,h2⟩:=Oo (S0:=S.ent ks ms) (h.ent ks ms) ⟨rfl,rfl,rfl⟩ zw
   refine Qg8 (fun m a w=>∃s β' ρ',agP S.prot β β' ρ ρ'∧Rel X β' ρ' ((S.ent ks ms).re (enc Γ s)).flat a w∧Qf _ m s=some z) N ⟨s0,β1,ρ1,h1,h2,hz⟩ ?_
   rintro m a1 w1 ⟨s,β',ρ',h3,h4,h5⟩
   cases m with
   | zero=>simp[Qf]at h5
   | succ m =>
    simp only[Qf]at h5
    obtain⟨q,hq,h5⟩:=Yj h5
    refine Z7 hT kz hK hX hr k5 x h4 hq fun e β2 ρ2 S' a' w' h6 h7 h8=>?_
    cases e with
    | n =>
     simp only at h6
     split at h6
     ·rename_i s' hd
      injection h6 with h6; subst h6
      obtain⟨β3,ρ3,h9,tu⟩:=Oo (S0:=S.ent ks ms) h8 ⟨h7.fix,h7.fixM,h7.prot⟩ hd
      exact⟨m,Nat.lt_succ_self m,s',β3,ρ3,(h3.trans h7.ag).trans h9,tu,h5⟩
     ·cases h6
    | x i =>
     simp only at h6
     split at h6
     ·rename_i s' hd
      injection h6 with h6; subst h6
      injection h5 with h5; subst h5
      obtain⟨β3,ρ3,S1,h9,tu,l6⟩:=Qj2 ks ms hd ho ⟨h7.fix,h7.fixM,h7.prot⟩ h8
      exact H (.x i) β3 ρ3 _ a' w' h9 ⟨rfl,rfl,rfl,(h3.trans h7.ag).trans tu⟩ l6
     ·cases h6
    | r =>
     simp only at h6
     split at h6
     ·rename_i s' hd
      injection h6 with h6; subst h6
      injection h5 with h5; subst h5
      obtain⟨β3,ρ3,S1,h9,tu,l6⟩:=Qj2 ks ms hd ho ⟨h7.fix,h7.fixM,h7.prot⟩ h8
      exact H .r β3 ρ3 _ a' w' h9 ⟨rfl,rfl,rfl,(h3.trans h7.ag).trans tu⟩ l6
     ·cases h6
  ·cases hs
theorem Qz5(p:Addr):(asAddr (.pointer (some p)):Sem Addr)=pure p:=rfl
theorem Qwg(hT:Q6 P Y.T)(h:Rel X β ρ S.flat a w):∀{rs:List ResultVar} {i:Nat} {es:List En} (pre:List Value),pre.length=i→Q4e Y S rs i=some es →
  ∃vs:List Value,vs.length=rs.length∧es.length=rs.length∧Sem.run P (rs.mapM fun r=>match r with | .tmp t=>(pure (a.tmps.getD t undef):Sem Value) | .cell ad t=>do loadVar t (←asAddr (a.tmps.getD ad undef))) w=.ok vs w ∧
   ∀e∈es,(enD β ρ ⟨(pre++vs).toArray,[]⟩ e).p (okR X β ρ S.flat.mem w) w
 | [],i,es,pre,_,he=>by simp[Q4e]at he; subst he; exact⟨[],rfl,rfl,rfl,by simp⟩
 | .tmp t::rs,i,es,pre,hi,he=>by
  simp only[Q4e]at he
  split at he
  ·rename_i v r hv hr
   obtain⟨uw,he⟩:=bvT he
   simp at he; subst he
   obtain⟨cs,h1,h2⟩:=h.ev (Qd a) hv
   obtain⟨vs,h3,h4,h5,h6⟩:=Qwg hT h (rs:=rs) (i:=i+1) (pre++[a.tmps.getD t undef]) (by simp[hi]) hr
   refine⟨a.tmps.getD t undef::vs,by simp[h3],by simp[h4],?_,fun e hm=>?_⟩
   ·rw[ZA]
    simp_all
   ·exact resCons hi uw (h1▸rfl) h2 h6 e hm
  ·cases he
 | .cell ad t::rs,i,es,pre,hi,he=>by
  simp only[Q4e]at he
  split at he
  ·rename_i v r hv hr
   obtain⟨uw,he⟩:=bvT he
   simp at he; subst he
   obtain⟨cs,h1,h2⟩:=Qhn (P:=P) (o:=⟨none,.load t (.tmp ad),0, "",#[],none⟩) hT h.toW (Qd a) hv
   obtain⟨vs,h3,h4,h5,h6⟩:=Qwg hT h (rs:=rs) (i:=i+1) (pre++[v.val cs]) (by simp[hi]) hr
   have hp:∃p,a.tmps.getD ad undef=.pointer (some p):=by
    simp only[Qhl]at hv
    split at hv
    ·rename_i id path qu hx
     obtain⟨cs1,q1,q2⟩:=h.ev (Qd a) hx
     have q2':cs1=_:=q2
     subst q2'
     exact⟨_,q1⟩
    ·rename_i t' y qu hx
     obtain⟨cs1,q1,v0,q2,b,o,_,q3,_⟩:=h.ev (Qd a) hx
     subst q2; subst q3
     exact⟨_,q1⟩
    ·cases hv
   obtain⟨p,hp⟩:=hp
   have hl:(loadVar t p).run P w=.ok (v.val cs) w:=by
    have k8:=h1
    unfold execOp at k8
    have xe:a.eval (.tmp ad)=.pointer (some p):=hp
    simp only[xe,Instr.loadAt,Instr.sureAddr,Sem.run_bind,Sem.run_pure,Result.andThen_ok]at k8
    cases hr:(loadVar t p).run P w with
    | ok v1 w1 =>
     rw[hr]at k8
     simp_all
    | _=>rw[hr]at k8; simp_all
   refine⟨v.val cs::vs,by simp[h3],by simp[h4],?_,fun e hm=>?_⟩
   ·rw[ZA]
    simp_all [Qz5,Sem.run_bind,Result.andThen_ok]
   ·exact resCons hi uw rfl h2 h6 e hm
  ·cases he
where
 resCons {i:Nat} {pre vs:List Value} {v0:Value} {v:AV} {cs:List Value} {r:List En} (hi:pre.length=i) (uw:Nat.blt i 100000=true) (hv:v0=v.val cs) (h2:cr β ρ (okR X β ρ S.flat.mem w) w false v cs)
   (h6:∀e∈r,(enD β ρ ⟨(pre++[v0]++vs).toArray,[]⟩ e).p (okR X β ρ S.flat.mem w) w):∀e∈(⟨i,[],v⟩::r:List En),(enD β ρ ⟨(pre++v0::vs).toArray,[]⟩ e).p (okR X β ρ S.flat.mem w) w:=by
  intro e hm
  have hl:pre++[v0]++vs=pre++(v0::vs):=by simp
  rw[hl]at h6
  rcases QJ.1 hm with rfl | hm
  ·refine⟨fun _=>⟨cs,?_,h2⟩,.inl (Qd _)⟩
   rw[Nm uw]
   grind
  ·exact h6 e hm
theorem Qj3:∀{l:List (Nat×Sk)} {i:Nat} {vs:List DV},Lm l i=true→∀(j:Nat) e,(Dt l vs).1[j]?=some e→e.t=i+j∧e.cs=[]
 | [],i,vs,_,j,e,h=>by simp[Dt]at h
 | (t,s)::l,i,vs,hk,j,e,h=>by
  simp only[Lm,QQ]at hk
  simp only[Dt]at h
  cases j with
  | zero =>
   simp at h; subst h
   simp_all
  | succ j =>
   obtain⟨h1,h2⟩:=Qj3 hk.2 j e (by simpa using h)
   grind
theorem Lt:∀{l:List (Nat×Sk)} {vs:List DV},(Dt l vs).1.length=l.length
 | [],vs=>rfl
 | (t,s)::l,vs=>by simp only[Dt,List.length_cons,Lt]
theorem Qz6{gl:List (Nat×Σ t:Ty,t.De)}{ok ok':Ok}{w:World}{β:Nat→Nat}{ρ:Nat→Value}{a:Act}(h:V1 gl ok w)(hk:∀b o,ok b o→ok' b o):∀e∈Qhv gl,(enD β ρ a e).p ok' w:=by
 intro e he
 obtain⟨q,hq,rfl⟩:=QZ.1 he
 refine⟨fun _=>⟨[.pointer (some ⟨q.1,0,none⟩)],Q31 a q.1,_,rfl,(h q hq).1.weak hk⟩,.inl (Qd a)⟩
theorem Fo{P:Program}{gl:List (Nat×Σ t:Ty,t.De)}{c:Con}(h:∀x,c.fn x=none):Qe5 P gl c:=fun ok w L β ρ x y vs _ _ _ _ _ hy=>by rw[h]at hy; cases hy
def S00(Y:TX)(c:Con)(x:c.Γ.De):XS:=⟨(enc c.Γ x).env,Qhv Y.gl,wrM c.ro (enc c.Γ x).mem,rdM c.ro (enc c.Γ x).mem,c.Γ.mem.map Prod.fst⟩
theorem Jk7{ro:List Nat}:∀(M:List (Nat×Ob)),M.Perm (wrM ro M++rdM ro M)
 | []=>.nil
 | q::l=>by
  have ih:=Jk7 (ro:=ro) l
  unfold wrM rdM at *
  cases hm:Yd ro q.1 with
  | true =>
   simp only[XF,hm,Bool.not_true,JH,if_false,if_true]
   exact(List.Perm.cons q ih).trans List.perm_middle.symm
  | false =>
   simp_all
def Jqn(Y:TX)(fn:Func)(c:Con):Ex→XS→Option (Qa6 c.Δ):=fun e S=>match e with
 | .x _=>none
 | .n=>fin Y fn c.Δ S
 | .r=>fin Y fn c.Δ S
theorem Q7f{fn:Func}{c:Con}(hku:Lm c.Γ.env 0=true)(nk:Nat.blt c.Γ.env.length 100000=true){ok:Ok}{w:World}{L:List Nat}{β:Nat→Nat}{ρ:Nat→Value}{x:c.Γ.De}{vs:List Value}{a:Act}(kn:∀b o,ok b o→b<w.heap.size)(hG:V1 Y.gl ok w)(hL:Qle (Qi β ρ (enc c.Γ x).mem) L ok w)
  (zq:∀e∈(enc c.Γ x).env,∃cs,vs[e.t]?=some (e.av.val cs)∧cr β ρ ok w false e.av cs) (h0:Sb (fun _=>0) (cxL L fn.ntmps ok w) (Qyh vs 0) [] [] (Qi β ρ (enc c.Γ x).mem) a w):Rel (cxL L fn.ntmps ok w) β ρ (S00 Y c x).flat a w:=by
 have hp:=(Jk7 (ro:=c.ro) (enc c.Γ x).mem).map fun q=>Q0 β ρ q.1 q.2
 have qj:∀b o,ok b o→okR (cxL L fn.ntmps ok w) β ρ (wrM c.ro (enc c.Γ x).mem++rdM c.ro (enc c.Γ x).mem) w b o:=fun b o kp=>⟨.inl (.inl kp),kn b o kp,by simp,fun t ht hc=>(hL.1 t (hp.mem_iff.2 ht)).2.2 b o (t.cb hc) kp⟩
 have hR:Rel (cxL L fn.ntmps ok w) β ρ (XS.flat (S00 Y c x)) a w:=by
  have e:XS.flat (S00 Y c x)=⟨(enc c.Γ x).env++Qhv Y.gl,wrM c.ro (enc c.Γ x).mem++rdM c.ro (enc c.Γ x).mem⟩:=rfl
  rw[e]
  replace h0:=Sb.perm h0 hp
  refine Rel.ofSb h0 rfl fun e he=>?_
  rcases QX.1 he with he | he
  case inr=>grind [Qz6]
  obtain⟨cs,h1,h2⟩:=zq e he
  have zx:e.cs=[]:=by
   grind [enc,Qjz]
  refine⟨fun _=>⟨cs,?_,X4 h2 qj⟩,.inl (by rw[zx]; exact Qd a)⟩
  have hz:∀{us:List Value} {i j:Nat} {v:Value},us[j]?=some v→(i+j,Gd.AV.v v)∈Qyh us i:=by
   intro us
   induction us with
   | nil=>grind
   | cons u us ih =>
    intro i j v h
    cases j with
    | zero=>simp at h; subst h; exact .head _
    | succ j =>
     have:=ih (i:=i+1) (j:=j) (v:=v) (by simpa using h)
     rw[show i+(j+1)=i+1+j by omega]
     exact .tail _ this
  have vw:Nat.blt e.t 100000=true:=by
   obtain⟨j,hj⟩:=List.getElem?_of_mem he
   have ng:e.t=0+j:=by
    grind [enc,Qj3,toL]
   have tr:j<c.Γ.env.length:=by
    have h4:=(List.getElem?_eq_some_iff.1 hj).1
    grind [enc,Lt,toL]
   have:=QK nk
   rw[ng]
   exact Nat.ble_eq_true_of_le (by omega)
  have:=h0.tm _ (hz (i:=0) h1)
  rw[Nm vw]
  grind [D8]
 exact hR
theorem Q7g{es:List En}{S:XS}:∀{l:List Shp} {y:Qa6 l},Jej es S l=some y→∃s x,Lm s.env 0=true∧es.length=s.env.length∧S.dec s=some x∧Qbu l y=enc s x
 | [s],y,h=>by
  simp only[Jej]at h
  obtain⟨hb,h⟩:=bvT h
  simp only[QQ]at hb
  exact⟨s,y,hb.1,Nat.eq_of_beq_eq_true hb.2,h,rfl⟩
 | s::r::l,y,h=>by
  simp only[Jej]at h
  split at h
  ·rename_i x hx
   injection h with h
   subst h
   obtain⟨hb,hx⟩:=bvT hx
   simp only[QQ]at hb
   exact⟨s,x,hb.1,Nat.eq_of_beq_eq_true hb.2,hx,rfl⟩
  ·split at h
   ·rename_i y0 hy
    injection h with h
    subst h
    obtain⟨s0,x0,h1,h2,h3,h4⟩:=Q7g hy
    exact⟨s0,x0,h1,h2,h3,h4⟩
   ·cases h
theorem Q7h(hT:Q6 P Y.T){fn:Func}{c:Con}{ok:Ok}{w:World}{L:List Nat}{β:Nat→Nat}{ρ:Nat→Value}{x:c.Γ.De}{y:Qa6 c.Δ}{β':Nat→Nat}{ρ':Nat→Value}{S':XS}{a':Act}{w':World}
  (h2:Yx (S00 Y c x) S' β β' ρ ρ') (h3:Rel (cxL L fn.ntmps ok w) β' ρ' S'.flat a' w'):fin Y fn c.Δ S'=some y→bodyPost P fn (Qvn L w (Qzq c β ρ ok L w x y)) .ret a' w':=by
 intro ye
 unfold fin at ye
 split at ye
 ·rename_i es yx
  obtain⟨hkb,hd⟩:=bvT ye
  have hksm:=QK hkb
  obtain⟨s,x1,hku,hel,hd,uj⟩:=Q7g hd
  obtain⟨rv,r1,r2,r3,r4⟩:=Qwg hT h3 [] rfl yx
  simp only[QU]at r4
  have hRes:Rel { cxL L fn.ntmps ok w with n:=rv.length } β' ρ' (XS.flat ⟨es,[],S'.mem,S'.fixM,S'.prot⟩) ⟨rv.toArray,[]⟩ w':=by
   have e:XS.flat ⟨es,[],S'.mem,S'.fixM,S'.prot⟩=⟨es,S'.flat.mem⟩:=by simp[XS.flat]
   rw[e]
   have hSb:Sb (fun _=>0) { cxL L fn.ntmps ok w with n:=rv.length } [] [] [] (Qi β' ρ' S'.flat.mem) ⟨rv.toArray,[]⟩ w' :=
    { sz:=by simp,df:=rfl,fr:=by simp,pn:=by simp,tm:=by simp,bel:=h3.bel,dat:=trivial,obj:=by simp,own:=h3.own,dHH:=by simp,dHO:=by simp,dOO:=h3.dOO }
   exact Rel.ofSb hSb rfl fun e he=>r4 e he
  obtain⟨β2,ρ2,h4,h5⟩:=XS.dec_ok hRes hd
  have ib:S'.fixM=roM c x:=h2.fixM
  have hpr:S'.prot=c.Γ.mem.map Prod.fst:=h2.prot
  rw[ib]at h5
  have qc:∀(j:Nat) e,(enc s x1).env[j]?=some e→∃cs,rv[j]?=some (e.av.val cs)∧cr β2 ρ2 (Jh (okL L ok) w.heap.size (fun _=>0) [] (Qi β2 ρ2 ((enc s x1).mem++roM c x)) w') w' false e.av cs:=by
   intro j e he
   have ng:e.t=0+j∧e.cs=[]:=by
    grind [enc,Qj3,toL]
   have ar:=h5.en (List.mem_append_left _ (List.mem_of_getElem? he))
   obtain⟨cs,q1,q2⟩:=ar.1 (by rw[ng.2]; exact Qd _)
   rw[ng.1,QV]at q1
   have tr:j<s.env.length:=by
    have h4:=(List.getElem?_eq_some_iff.1 he).1
    grind [enc,Lt,toL]
   rw[Nm (Nat.ble_eq_true_of_le (by omega))]at q1
   grind
  have nt:(enc s x1).env.length=rv.length:=by
   grind [enc,Lt,toL]
  have xq:(results fn a'.tmps).run P w'=.ok (if h:rv.toArray.size=1 then rv.toArray[0]else .tuple rv.toArray) w':=by
   unfold results
   rw[XP]
   simp only[Sem.run_bind,Sem.run_map,bind_pure_comp]
   exact congrArg (fun z:Result (List Value)=>(z.andThen fun a w'=>Result.ok a.toArray w').andThen fun a w'=>Result.ok (if h:a.size=1 then a[0]else Value.tuple a) w') r3
  refine⟨h3.df,_,xq,_,rfl,?_,h3.bel⟩
  unfold Qzq
  rw[uj]
  refine⟨β2,ρ2,?_,?_,?_,?_⟩
  ·exact agP.trans h2.ag (by rw[←hpr]; exact h4)
  ·by_cases ed:rv.length=1
   ·obtain⟨e0,l7⟩:=ZU.1 (nt.trans ed)
    obtain⟨cs,q1,q2⟩:=qc 0 e0 (by rw[l7]; rfl)
    have hra:P4 (enc s x1).env=e0.av:=by rw[l7]; rfl
    rw[hra]
    grind
   ·have hra:P4 (enc s x1).env=.tp (Qs8 (enc s x1).env):=by
     unfold P4
     grind
    rw[hra]
    refine⟨[.tuple rv.toArray],?_,rv,rfl,?_⟩
    ·rw[dif_neg (by simpa using ed)]; rfl
    ·exact Qzx (i:=0) qc nt.symm
  ·exact fun t ht=>h5.own t ht
  ·exact h5.dOO
 ·cases ye
theorem Jjl(hT:Q6 P Y.T){f:FuncId}{fn:Func}(hf:P.funcs[f]?=some fn){c:Con}(pg:c.f=f){code:Code}(hb:fn.body=some code)(hble:Nat.ble c.Γ.env.length fn.ntmps=true)(hku:Lm c.Γ.env 0=true)(nk:Nat.blt c.Γ.env.length 100000=true)
  (hway:∀(x:c.Γ.De) (y:Qa6 c.Δ) (X:Cx) (β:Nat→Nat) (ρ:Nat→Value) (a:Act) (w:World) (Q:Exit→Act→World→Prop),c.fn x=some y→V1 Y.gl (okN X) X.w→X.n=fn.ntmps→X.res=[]→X.pin=none→Rel X β ρ (S00 Y c x).flat a w→COk Q X (S00 Y c x) β ρ (Jqn Y fn c) y→code.wp P Q a w):Qe5 P Y.gl c:=by
 intro ok w L β ρ x y vs kn hG hlen hL zq hy
 rw[pg]
 refine Q9m (n:=fn.ntmps) (L:=L) (O:=Qi β ρ (enc c.Γ x).mem) (D:=[]) kn hf hb rfl (by rw[hlen]; exact hble) trivial hL fun a h0=>?_
 have hR:=Q7f (Y:=Y) (fn:=fn) hku nk kn hG hL zq h0
 refine hway x y _ β ρ a w _ hy (hG.weak fun b o kp=>⟨.inl kp,fun wh=>hL.2.2 b wh |>.elim fun t ht=>(hL.1 t ht.1).2.2 b o ht.2 kp,kn b o kp⟩) rfl rfl rfl hR fun e β' ρ' S' a' w' h1 h2 h3=>?_
 have key:=Q7h (y:=y) hT h2 h3
 cases e with
 | n=>exact key h1
 | x i=>cases h1
 | r=>exact key h1
theorem Jjm(hT:Q6 P Y.T)(kz:P.follows .mixedOrders=true)(hK:Qzy P Y.gl K){f:FuncId}{fn:Func}(hf:P.funcs[f]?=some fn){an:An}{c:Con}(pg:c.f=f)(ka:∀x,c.fn x=Jek Y K N fn an c.ro c.Γ c.Δ x):Qe5 P Y.gl c:=by
 cases hb:fn.body with
 | none =>
  grind [Fo,Jek]
 | some code =>
  by_cases hc:(Nat.ble c.Γ.env.length fn.ntmps&&(Lm c.Γ.env 0&&Nat.blt c.Γ.env.length 100000))=true
  ·have y8:=hc
   simp only[QQ]at y8
   refine Jjl hT hf pg hb y8.1 y8.2.1 y8.2.2 fun x y X β ρ a w Q hy hG hX hr hp hR H=>?_
   rw[ka]at hy
   unfold Jek at hy
   rw[hb,hc]at hy
   exact Z7 hT kz ⟨hK,hG⟩ hX hr hp an hR hy H
  ·refine Fo fun x=>?_
   rw[ka]
   unfold Jek
   rw[hb]
   grind
end
end Gx
namespace Gx
open Go
theorem Jpo{P:Program}{gl:List (Nat×Σ t:Ty,t.De)}:Qzy P gl []:=fun _ h=>by cases h
theorem Jn3{P:Program}{c:Con}{gl:List (Nat×Σ t:Ty,t.De)}{K:List Con}(h:Qe5 P gl c)(hr:Gd.Runs P c.f)(hk:Qzy P gl K):Qzy P gl (c::K):=fun d hd=>by
 rcases QJ.1 hd with rfl | hd
 ·exact⟨h,hr⟩
 ·exact hk d hd
end Gx
