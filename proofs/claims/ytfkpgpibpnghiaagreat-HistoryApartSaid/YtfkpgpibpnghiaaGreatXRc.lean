/- A region whose order is drawn, by an invariant alone. -/
import Derived.Test.YtfkpgpibpnghiaaGreatXMo
import Derived.Test.YtfkpgpibpnghiaaGreatXH
import Derived.Maps.RangeRun
import Derived.Scope
namespace Gx
open Go Go.RowKit Gd
set_option linter.unusedVariables false
set_option linter.unusedSimpArgs false
section
variable {P:Program} {a:Act} {w:World}
theorem Q8b(I:(Nat→Bool)→Act→World→Prop){id:Nat}{l:List Oper}{Q:Exit→Act→World→Prop}(hm:P.follows .mixedOrders=true)(p:Nat)(hIE:∀(E E':Nat→Bool) (a:Act) (w:World),(∀i,i<p→E i=E' i)→I E a w→I E' a w)
  (hple:Nat.ble p l.length=true) (hback:Gd.backB l=true) (hfin:Js4 l p=true) (h0:I (fun _=>false) a w.drew)
  (hstep:∀(E:Nat→Bool) (i:Nat) (o:Oper) (a:Act) (w:World) (Q':Exit→Act→World→Prop),i<p→l[i]?=some o→Qqp l (fun j=>E j=true)→E i=false→(∀e∈o.after.toList,Region.binds .any e=true→E e.on=true)→I E a w →
   (∀a' w',I (fun j=>j==i||E j) a' w'→Q' .normal a' w')→wpList P ⟨l⟩ Q' [o] a w)
  (hend:∀a' w',I (fun _=>true) a' w'→wpList P ⟨l⟩ Q (l.drop p) a' w') :
  (Code.region id ⟨l⟩ true).wp P Q a w:=by
 refine wp_region_any hm ?_
 have hpl:=QW hple
 let E (listed:Array Bool):Nat→Prop:=fun i=>listed.getD i false=true
 let J1 (listed:Array Bool) (a:Act) (w:World):Prop:=(∀k,p≤k→¬ E listed k)∧I (fun i=>listed.getD i false) a w
 let J (listed:Array Bool) (a:Act) (w:World):Prop:=listed.size=l.length∧Qqp l (E listed) ∧
  (J1 listed a w∨(∃k,p<k∧(∀i,i<l.length→(E listed i↔i<k))∧wpList P ⟨l⟩ Q (l.drop k) a w))
 have hset:∀(listed:Array Bool) (i j:Nat),listed.size=l.length→i<l.length→(E (listed.setIfInBounds i true) j↔(j=i∨E listed j)):=by
  intro listed i j hs hi
  simp only[E,JJ,Array.getElem?_setIfInBounds,hs]
  grind
 have hsetB:∀(listed:Array Bool) (i j:Nat),listed.size=l.length→i<l.length→(listed.setIfInBounds i true).getD j false=(j==i||listed.getD j false):=by
  grind
 have hgo:∀listed a w,J1 listed a w→(∀j,j<p→E listed j)→wpList P ⟨l⟩ Q (l.drop p) a w:=by
  grind
 have hdone:∀listed a w,J listed a w→(∀i,i<l.length→E listed i)→Q .normal a w:=by
  rintro listed a w ⟨hs,hc,h1 | ⟨k,hk,hE,hw⟩⟩ hall
  ·have hpm:p=l.length:=by
    rcases Nat.lt_or_ge p l.length with hlt | hge
    ·grind
    ·omega
   have:=hgo listed a w h1 fun i hi=>hall i (by omega)
   rw[hpm,JE]at this
   exact this
  ·have hkl:l.length≤k:=by
    grind
   rw[KI hkl]at hw
   exact hw
 have step1:∀(listed:Array Bool) (a:Act) (w:World) (i:Nat) (o:Oper) (Q':Exit→Act→World→Prop),listed.size=l.length→Qqp l (E listed)→J1 listed a w→i<p→l[i]?=some o→¬ E listed i →
   (∀e∈o.after.toList,Region.binds .any e=true→listed.getD e.on false=true)→(∀a' w',J1 (listed.setIfInBounds i true) a' w'→Q' .normal a' w')→wpList P ⟨l⟩ Q' [o] a w:=by
  grind
 have main:∀(fuel:Nat) (listed:Array Bool) (a:Act) (w:World),J listed a w→((List.range l.length).filter fun i=>!listed.getD i false).length≤fuel→wpAny P .any ⟨l⟩ Q fuel listed a w:=by
  intro fuel
  induction fuel with
  | zero =>
   intro listed a w hJ hle
   have hall:∀i,i<l.length→E listed i:=by
    intro i hi
    cases hl:listed.getD i false with
    | true=>exact hl
    | false =>
     have:i∈(List.range l.length).filter fun i=>!listed.getD i false:=QU.2 ⟨JL.2 hi,by rw[hl]; rfl⟩
     have hnil:=QD (Nat.le_zero.1 hle)
     rw[hnil]at this; simp at this
   refine⟨?_,hdone listed a w hJ hall⟩
   apply List.eq_nil_iff_forall_not_mem.2
   intro i hi
   rw[Qk5]at hi
   have h1:=hall i hi.1
   have h2:=hi.2.1
   grind
  | succ fuel ih =>
   intro listed a w hJ hle
   refine⟨fun hr=>hdone listed a w hJ (Q7o hJ.1 hback hr),fun i hi=>?_⟩
   rw[Qk5]at hi
   obtain⟨hil,hnl,o,ho,hpre⟩:=hi
   obtain⟨hs,hc,hcase⟩:=hJ
   have hniE:¬ E listed i:=by
    grind
   have hcl:Qqp l (E (listed.setIfInBounds i true)):=by
    intro j oj hj hoj e he hb
    rw[hset listed i _ hs hil]at hj ⊢
    rcases hj with rfl | hj
    ·rw[ho]at hoj; grind
    ·exact .inr (hc j oj hj hoj e he hb)
   have hcnt:((List.range l.length).filter fun j=>!(listed.setIfInBounds i true).getD j false).length≤fuel:=by
    have hlt:((List.range l.length).filter fun j=>!(listed.setIfInBounds i true).getD j false).length<((List.range l.length).filter fun j=>!listed.getD j false).length:=by
     apply Qrz (x:=i)
     ·grind
     ·grind
     ·have:=(hset listed i i hs hil).2 (.inl rfl)
      grind
     grind
    omega
   rcases hcase with hJ1 | ⟨k,hk,hE,hw⟩
   ·rcases Nat.lt_or_ge i p with hip | hip
    ·
     exact Qyh ho (step1 listed a w i o (Exit.then (wpAny P .any ⟨l⟩ Q fuel (listed.setIfInBounds i true)) Q) hs hc hJ1 hip ho hniE hpre fun a' w' hJ1=>ih _ a' w' ⟨by simp[hs],hcl,.inl hJ1⟩ hcnt)
    ·
     have hall:∀j,j<i→E listed j:=fun j hj=>Sg hc l.length i j (Ja9 hfin hip hil hj) fun o' ho'=>by rw[ho]at ho'; injection ho' with ho'; subst ho'; exact hpre
     have hip':i=p:=by
      rcases Nat.lt_or_ge p i with hlt | hge
      ·exact absurd (hall p hlt) (hJ1.1 p (QG _))
      ·omega
     subst hip'
     have hw:=hgo listed a w hJ1 hall
     refine wpOp_mono (fun a w hw'=>ih _ a w ⟨by simp[hs],hcl,.inr ⟨i+1,by omega,fun j hj=>?_,hw'⟩⟩ hcnt) (Qi1 ho hw)
     rw[hset listed i j hs hil]
     grind
   ·
    have hall:∀j,j<i→E listed j:=by
     intro j hj
     have hpi:p<i:=by
      rcases Nat.lt_or_ge i k with h1 | h1
      ·exact absurd ((hE i hil).2 h1) hniE
      ·omega
     exact Sg hc l.length i j (Ja9 hfin (by omega) hil hj) fun o' ho'=>by rw[ho]at ho'; injection ho' with ho'; subst ho'; exact hpre
    have hik:i=k:=by
     rcases Nat.lt_or_ge i k with h1 | h1
     ·exact absurd ((hE i hil).2 h1) hniE
     ·rcases Nat.lt_or_ge k i with h2 | h2
      ·have:=(hE k (by omega)).1 (hall k h2); omega
      ·omega
    subst hik
    refine wpOp_mono (fun a w hw'=>ih _ a w ⟨by simp[hs],hcl,.inr ⟨i+1,by omega,fun j hj=>?_,hw'⟩⟩ hcnt) (Qi1 ho hw)
    rw[hset listed i j hs hil,hE j hj]
    constructor
    ·rintro(rfl | h1)<;>omega
    ·intro h1
     rcases Nat.lt_or_ge j i with h2 | h2
     ·exact .inr h2
     ·exact .inl (by omega)
 refine main _ _ a _ ⟨by simp,fun i o hE=>?_,.inl ⟨fun k _ hE=>?_,?_⟩⟩ ?_
 ·simp only[E]at hE; simp[JJ,ZH]at hE
  split at hE<;>simp at hE
 ·simp only[E]at hE; simp[JJ,ZH]at hE
  split at hE<;>simp at hE
 ·refine hIE (fun _=>false) _ a _ (fun i hi=>?_) h0
  simp only[JJ,ZH]
  split<;>rfl
 grind
end
end Gx

/- One operation, with the rest of the state set aside. -/
namespace Gx
open Go Go.RowKit Gd
set_option linter.unusedVariables false
set_option linter.unusedSimpArgs false
theorem Qhr{β:Nat→Nat}{ρ:Nat→Value}:∀{M:List (Nat×Ob)} {q:Nat×Ob},Wq M=true→q∈M→∀{b o:Nat},(Q4 β ρ q.1 q.2).blks b→(Q4 β ρ q.1 q.2).cov b o
 | (k,ob)::l,q,h,hq,b,o,hb=>by
  cases ob with
  | tail e t xs=>cases h
  | _ =>
   rcases QX.1 hq with rfl | hq
   ·exact hb
   ·exact Qhr (M:=l) h hq hb
def Jqd(o:Oper)(a a':Act):Prop:=∀t,o.dst≠some t→a'.tmps[t]?=a.tmps[t]?
def Jqe(o:Oper)(a:Act)(Q:Exit→Act→World→Prop):Exit→Act→World→Prop
 | .normal,a',w'=>Jqd o a a'→Q .normal a' w'
 | e,a',w'=>Q e a' w'
theorem Nh(o:Oper)(a:Act)(v:Value):Jqd o a (a.put o.dst v):=by
 intro t ht
 cases hd:o.dst with
 | none=>rfl
 | some d=>grind [Vd]
theorem Q3a{P:Program}{ops:Array Oper}{Q:Exit→Act→World→Prop}{o:Oper}{a:Act}{w:World}(h:wpList P ops (Jqe o a Q) [o] a w):wpList P ops Q [o] a w:=by
 unfold wpList at h ⊢
 split at h
 ·rename_i hw
  rw[if_pos hw]
  rcases h with h | ⟨h1,h2⟩
  ·left
   unfold Oper.wp at h ⊢
   cases hr:(execOp a.eval o).run P w with
   | ok nx w' =>
    rw[hr]at h
    cases nx with
    | value v=>exact h (Nh o a v)
    | skip=>exact h (Nh o a undef)
    | defer d =>
     refine h fun t ht=>?_
     have:=Nh o { a with defers:=d::a.defers } undef t ht
     exact this
    | enter f args =>
     refine Calls.mono h fun e w' he=>?_
     cases e with
     | returned v=>exact he (Nh o a v)
     | panicked c=>exact he
     | outgrown=>exact he
    | row r args=>exact Rows.mono h fun v w' hv=>hv (Nh o a v)
    | _=>exact h.elim
   | halt hl w' =>
    rw[hr]at h
    cases hl with
    | panic v=>exact h
    | _=>exact h.elim
  ·exact .inr ⟨h1,h2⟩
 ·rename_i hw
  rw[if_neg hw]
  exact h (Nh o a undef)
open Classical in
noncomputable def Bk(n:Nat)(O:List TL):List Nat:=(List.range n).filter fun g=>decide (∃t∈O,t.blks g)
section
variable {P:Program} {Y:TX} {X:Cx} {β:Nat→Nat} {ρ:Nat→Value} {a:Act} {w:World} {ops:Array Oper} {Q:Exit→Act→World→Prop} {o:Oper}
theorem Jjg(hG:Uq Y.gl (okN X) X.w)(hr:X.res=[])(hp:X.pin=none){Ve Fe:List En}{Vm Fm:List (Nat×Ob)}{S1:St}{pr:List Nat}(h:Rel X β ρ ⟨Ve++Fe,Vm++Fm⟩ a w)(hV:Wq Vm=true)
    (hF:∀e∈Fe,(∀i∈Jg e.av,i∈pr)∧∀d,o.dst=some d→e.t≠d∧∀c∈e.cs,c.1≠d) (hFm:∀i∈Jp Fm,i∈pr)
    (hstep:∀(X1:Cx) (Q1:Exit→Act→World→Prop),X1.n=X.n→X1.res=[]→X1.pin=none→Uq Y.gl (okN X1) X1.w→Rel X1 β ρ ⟨Ve,Vm⟩ a w→(∀β' ρ' a' w',agP pr β β' ρ ρ'→Rel X1 β' ρ' S1 a' w'→Q1 .normal a' w')→wpList P ops Q1 [o] a w)
    (H:∀β' ρ' a' w',agP pr β β' ρ ρ'→Rel X β' ρ' ⟨S1.env++Fe,S1.mem++Fm⟩ a' w'→Q .normal a' w'):wpList P ops Q [o] a w:=by
  have eM:Qk β ρ (Vm++Fm)=Qk β ρ Vm++Qk β ρ Fm:=QN
  have hS:Sb (fun _=>0) X [] ((Ve++Fe).map (enD β ρ a)) [] (Qk β ρ Vm++Qk β ρ Fm) a w:=by rw[←eM]; exact h
  have hL1:∀t∈Qk β ρ Vm,∀g,t.blks g→g∈Bk w.heap.size (Qk β ρ Vm):=fun t ht g hg=>by
    unfold Bk
    exact QU.2 ⟨JL.2 (hS.olt (List.mem_append_left _ ht) hg),by grind⟩
  have hL2:∀g∈Bk w.heap.size (Qk β ρ Vm),∃t∈Qk β ρ Vm,t.blks g:=fun g hg=>by
    simp_all [Bk,QU,decide_eq_true_eq]
  have hcov:∀t∈Qk β ρ Vm,∀b o,t.blks b→t.cov b o:=fun t ht b o hb=>by
    obtain⟨q,hq,rfl⟩:=QK.1 ht
    grind [Qhr]
  have hk:∀b f,Jk X.ok X.w.heap.size (fun _=>0) [] (Qk β ρ Vm++Qk β ρ Fm) w b f→Jk (okL (Bk w.heap.size (Qk β ρ Vm)) (Jk X.ok X.w.heap.size (fun _=>0) [] (Qk β ρ Vm++Qk β ρ Fm) w)) w.heap.size (fun _=>0) [] (Qk β ρ Vm) w b f :=
    fun b f hbo=>⟨.inl (.inl hbo),hbo.2.1,by simp,fun t ht hc=>hbo.2.2.2 t (List.mem_append_left _ ht) hc⟩
  refine Q3a (hstep { cxL (Bk w.heap.size (Qk β ρ Vm)) X.n (Jk X.ok X.w.heap.size (fun _=>0) [] (Qk β ρ Vm++Qk β ρ Fm) w) w with dfs:=X.dfs } (Jqe o a Q) rfl rfl rfl ?_ ?_ fun β' ρ' a' w' hag hR hsame=>?_)
  · exact(Ss hS hG).weak fun b f hbo=>⟨.inl hbo,fun hbl=>by
      obtain⟨t,ht,hg⟩:=hL2 b hbl
      exact hbo.2.2.2 t (List.mem_append_left _ ht) (hcov t ht b f hg),hbo.2.1⟩
  · exact { sz:=hS.sz,df:=hS.df,fr:=by simp,pn:=by simp,tm:=by simp,bel:=Vi.refl _ _ _,obj:=by simp,dHH:=by simp,dHO:=by simp,
            dat:=Yk.2 fun x hx=>by
              obtain⟨e,he,rfl⟩:=QK.1 hx
              exact(enD β ρ a e).weak (Yk.1 hS.dat _ (QK.2 ⟨e,List.mem_append_left _ he,rfl⟩)) hk,
            own:=fun t ht=>⟨t.weak (hS.own t (List.mem_append_left _ ht)).1 hk,fun g hg=>.inr (hL1 t ht g hg)⟩,
            dOO:=(QE.1 hS.dOO).1 }
  · have hC:=Sb.callO (O1':=Qk β' ρ' S1.mem) hS hR.bel hL2 hcov (fun t ht=>⟨(hR.own t ht).1,fun g hg=>(hR.own t ht).2 g hg⟩) hR.dOO
    have hsim:Wg (Qk β ρ Fm) (Qk β' ρ' Fm):=Qv7 fun i hi=>hag i (hFm i hi)
    have hC2:=hC.simO ((Wg.refl (Qk β' ρ' S1.mem)).append hsim)
    have hmem:Qk β' ρ' (S1.mem++Fm)=Qk β' ρ' S1.mem++Qk β' ρ' Fm:=QN
    have hC3:Sb (fun _=>0) X [] [] [] (Qk β' ρ' S1.mem++Qk β' ρ' Fm) a' w' :=
      { sz:=hR.sz,df:=hR.df,fr:=by rw[hr]; simp,pn:=by rw[hp]; simp,tm:=by simp,bel:=hC2.bel,dat:=trivial,obj:=by simp,own:=hC2.own,dHH:=by simp,dHO:=by simp,dOO:=hC2.dOO }
    refine H β' ρ' a' w' hag (Rel.ofSb hC3 hmem.symm fun e he=>?_)
    rcases QZ.1 he with he | he
    · have h1:=Yk.1 hR.dat _ (QK.2 ⟨e,he,rfl⟩)
      refine(enD β' ρ' a' e).weak h1 fun b f hbf=>?_
      have h2:=Qff hS hR.bel.size hL2 b f hbf
      have h3:=((Wg.refl (Qk β' ρ' S1.mem)).append hsim).ok b f h2
      grind
    · have h1:=Yk.1 hC2.dat _ (QK.2 ⟨e,List.mem_append_right _ he,rfl⟩)
      obtain⟨hi,hd⟩:=hF e he
      have ht:∀t,(∀d,o.dst=some d→t≠d)→a'.tmps[t]?=a.tmps[t]?:=fun t ht=>hsame t fun hd=>ht t hd rfl
      have hcc:Jx a' e.cs↔Jx a e.cs:=⟨fun hc c hm=>by rw[←ht _ fun d hd'=>(hd d hd').2 c hm]; exact hc c hm,fun hc c hm=>by rw[ht _ fun d hd'=>(hd d hd').2 c hm]; exact hc c hm⟩
      have hrd:rd a' e.t=rd a e.t:=by grind [rd]
      refine⟨fun hc=>?_,?_⟩
      · obtain⟨cs,q1,q2⟩:=h1.1 (hcc.1 hc)
        refine⟨cs,by rw[hrd]; exact q1,?_⟩
        unfold okR
        rw[hmem]
        exact Hj (fun i hm=>hag i (hi i hm)) q2
      · rw[hcc,hrd]; exact h1.2
end
end Gx

/- Regions of open order by ordinary steps: what is found, what is one's own. -/
namespace Gx
open Go Go.RowKit Gd
set_option linter.unusedVariables false
set_option linter.unusedSimpArgs false
theorem Q8c{id:Nat}{e:EC}{c:Option Ob}(h:Ko id e=false):upC id e c=c:=by
 unfold Ko at h
 unfold upC
 cases hl:Qnp e.ups id with
 | none=>rfl
 | some x=>rw[hl]at h; cases h
theorem Ps{E:Nat→Bool}{id:Nat}:∀{l1 l2:List EC} {j:Nat} {c:Option Ob},Yy E id (l1++l2) j c=Yy E id l2 (j+l1.length) (Yy E id l1 j c)
 | [],l2,j,c=>rfl
 | e::l1,l2,j,c=>by
  simp only[QM,Yy,Ps (l1:=l1),List.length_cons]
  rw[show j+1+l1.length=j+(l1.length+1) by omega]
theorem N2{E E':Nat→Bool}{id:Nat}:∀{l:List EC} {j:Nat} {c:Option Ob},(∀(k:Nat) e,l[k]?=some e→Ko id e=true→E (j+k)=E' (j+k))→Yy E id l j c=Yy E' id l j c
 | [],j,c,_=>rfl
 | e0::l,j,c,h=>by
  simp only[Yy]
  have e:(bif E j then upC id e0 c else c)=(bif E' j then upC id e0 c else c):=by
   cases ht:Ko id e0 with
   | true=>rw[show E j=E' j from h 0 _ rfl ht]
   | false=>rw[Q8c ht]; cases E j<;>cases E' j<;>rfl
  rw[e]
  exact N2 fun k g hk ht=>by
   have:=h (k+1) g (by simpa using hk) ht
   rw[show j+1+k=j+(k+1) by omega]; exact this
theorem Ni{E:Nat→Bool}{id:Nat}:∀{l:List EC} {j:Nat} {c:Option Ob},(∀(k:Nat) e,l[k]?=some e→Ko id e=true→E (j+k)=false)→Yy E id l j c=c
 | [],j,c,_=>rfl
 | e0::l,j,c,h=>by
  simp only[Yy]
  have e:(bif E j then upC id e0 c else c)=c:=by
   cases ht:Ko id e0 with
   | true=>rw[show E j=false from h 0 _ rfl ht]; rfl
   | false=>rw[Q8c ht]; cases E j<;>rfl
  rw[e]
  exact Ni fun k g hk ht=>by
   have:=h (k+1) g (by simpa using hk) ht
   rw[show j+1+k=j+(k+1) by omega]; exact this
theorem Q3b{acc:List EC}{i:Nat}{g:EC}(hg:acc[i]?=some g):acc=acc.take i++g::acc.drop (i+1)∧(acc.take i).length=i:=by
 have hi:i<acc.length:=(List.getElem?_eq_some_iff.1 hg).1
 rw[List.getElem?_eq_getElem hi]at hg
 grind [List.length_take,List.drop_eq_getElem_cons,List.take_append_drop]
section
variable {E:Nat→Bool} {acc:List EC} {i id:Nat} {g:EC} {c:Option Ob}
theorem Jjh(hg:acc[i]?=some g)(hi:E i=false)(he:∀(j:Nat) g',acc[j]?=some g'→j<i→Ko id g'=true→E j=true)(hl:∀(j:Nat) g',acc[j]?=some g'→i<j→Ko id g'=true→E j=false) :
  Yy E id acc 0 c=Yy Hf id (acc.take i) 0 c:=by
 obtain⟨e1,e2⟩:=Q3b hg
 have e3:Yy E id acc 0 c=Yy E id (acc.take i++g::acc.drop (i+1)) 0 c:=by rw[←e1]
 rw[e3,Ps,e2,QY]
 simp only[Yy,hi,cond_false]
 rw[Ni fun k g' hk ht=>hl (i+1+k) g' (by rw[JD]at hk; exact hk) (by omega) ht]
 refine N2 fun k g' hk ht=>?_
 rw[JC]at hk
 split at hk
 ·rw[QY,he k g' hk (by omega) ht]; rfl
 ·cases hk
theorem Jji(hg:acc[i]?=some g)(hi:E i=false)(hl:∀(j:Nat) g',acc[j]?=some g'→i<j→Ko id g'=true→E j=false) :
  Yy (Qf1 E i) id acc 0 c=upC id g (Yy E id acc 0 c):=by
 obtain⟨e1,e2⟩:=Q3b hg
 have e3:∀E,Yy E id acc 0 c=Yy E id (acc.take i++g::acc.drop (i+1)) 0 c:=fun E=>by rw[←e1]
 rw[e3,e3,Ps,Ps,e2,QY]
 simp only[Yy,hi,cond_false,BEq.rfl,Bool.true_or,cond_true]
 have h1:Yy (Qf1 E i) id (acc.take i) 0 c=Yy E id (acc.take i) 0 c:=N2 fun k g' hk ht=>by
  have:k<i:=by
   rw[JC]at hk
   grind
  simp only[Qf1,QY]
  rw[show(k==i)=false by simp; omega]; rfl
 have h2:∀c',Yy (Qf1 E i) id (acc.drop (i+1)) (i+1) c'=c':=fun c'=>Ni fun k g' hk ht=>by
  grind
 have h3:∀c',Yy E id (acc.drop (i+1)) (i+1) c'=c':=fun c'=>Ni fun k g' hk ht=>hl (i+1+k) g' (by rw[JD]at hk; exact hk) (by omega) ht
 rw[h2,h3,h1]
 grind
theorem Jjj(hg:acc[i]?=some g)(ht:Ko id g=false):Yy (Qf1 E i) id acc 0 c=Yy E id acc 0 c :=
 N2 fun k g' hk ht'=>by
  rw[QY]
  by_cases e:k=i
  ·grind
  grind
theorem Qjw{E:Nat→Bool}:∀{acc:List EC} {j:Nat} {e:En},e∈L0 E acc j→∃(k:Nat) (g:EC),acc[k]?=some g∧E (j+k)=true∧g.has=true∧e=⟨g.d,[],g.av⟩
 | [],j,e,h=>by cases h
 | g::l,j,e,h=>by
  simp only[L0]at h
  cases hb:(E j&&g.has)with
  | true =>
   rw[hb]at h
   simp only[QJ]at hb
   rcases QX.1 h with rfl | h
   ·exact⟨0,g,rfl,hb.1,hb.2,rfl⟩
   ·obtain⟨k,g',h1,h2,h3,h4⟩:=Qjw h
    exact⟨k+1,g',by simpa using h1,by rw[show j+(k+1)=j+1+k by omega]; exact h2,h3,h4⟩
  | false =>
   rw[hb]at h
   obtain⟨k,g',h1,h2,h3,h4⟩:=Qjw h
   exact⟨k+1,g',by simpa using h1,by rw[show j+(k+1)=j+1+k by omega]; exact h2,h3,h4⟩
theorem Qy6{E:Nat→Bool}:∀{acc:List EC} {j k:Nat} {g:EC},acc[k]?=some g→E (j+k)=true→g.has=true→(⟨g.d,[],g.av⟩:En)∈L0 E acc j
 | [],j,k,g,h,_,_=>by simp at h
 | g0::l,j,0,g,h,h1,h2=>by
  grind [L0]
 | g0::l,j,k+1,g,h,h1,h2=>by
  have:=Qy6 (acc:=l) (j:=j+1) (k:=k) (by simpa using h) (by rw[show j+1+k=j+(k+1) by omega]; exact h1) h2
  grind [L0]
end
theorem Jeq{ids:List Nat}:∀{names:List Nat},ids.Nodup→names.Nodup→(∀i∈ids,i∈names)→names.Perm (ids++names.filter fun i=>!Yl ids i):=by
 induction ids with
 | nil =>
  intro names _ _ _
  have:(names.filter fun i=>!Yl [] i)=names:=ZW.2 fun _ _=>rfl
  rw[this]
  grind
 | cons x ids ih =>
  intro names hi hn hs
  have hi':=JW.1 hi
  obtain⟨l1,l2,rfl⟩:=List.append_of_mem (hs x (.head _))
  have hn2:(l1++l2).Nodup∧x∉l1++l2:=by
   have:=(List.perm_middle.nodup_iff (l₁:=l1++x::l2)).1 hn
   grind
  have h1:=ih (names:=l1++l2) hi'.2 hn2.1 fun i him=>by
   have:=hs i (.tail _ him)
   grind
  have e:((l1++x::l2).filter fun i=>!Yl (x::ids) i)=(l1++l2).filter fun i=>!Yl ids i:=by
   have hf:∀l:List Nat,x∉l→(l.filter fun i=>!Yl (x::ids) i)=l.filter fun i=>!Yl ids i:=fun l hx=>by
    refine KG fun i him=>?_
    have hne:x≠i:=fun e=>hx (e▸him)
    simp only[Yl,Ju6 hne,VY]
   rw[QR,ZO]
   have hx0:(!Yl (x::ids) x)=false:=by simp[Yl,Nat.beq_refl]
   rw[hx0]
   grind
  rw[e]
  exact List.perm_middle.trans (List.Perm.cons x h1)
end Gx

/- One operation of a region of open order, by an ordinary step. -/
namespace Gx
open Go Go.RowKit Gd
set_option linter.unusedVariables false
set_option linter.unusedSimpArgs false
theorem Qlt:∀{ids:List Nat} {M:List (Nat×Ob)},ids.Nodup→(Jt M ids).2=ids.filterMap fun t=>Kz t (Qh M t)
 | [],M,_=>rfl
 | t::ts,M,hn=>by
  have hn':=JW.1 hn
  simp only[Jt,JR]
  cases hl:Qh M t with
  | none=>simp only[Kz]; exact Qlt hn'.2
  | some o =>
   simp only[Kz]
   rw[Qlt (M:=J3 M t) hn'.2]
   congr 1
   exact Y7 fun j hj=>by rw[Qrl fun(e:j=t)=>hn'.1 (by rw[←e]; exact hj)]; cases Qh M j<;>rfl
theorem Sx{f:Nat→Option Ob}{id:Nat}:∀{ids:List Nat},Qnp (ids.map fun i=>(i,f i)) id=if id∈ids then some (f id)else none
 | []=>rfl
 | k::l=>by
  simp only[JV,Qnp]
  cases hb:Nat.beq k id with
  | true =>
   have:=Nat.eq_of_beq_eq_true hb
   subst this
   simp
  | false =>
   have hne:id≠k:=fun e=>by simp_all
   simp only[cond_false,Sx (ids:=l),QX,hne,false_or]
section
variable {P:Program} {Y:TX} {X:Cx} {β:Nat→Nat} {ρ:Nat→Value} {a:Act} {w:World} {ops:Array Oper} {Q:Exit→Act→World→Prop} {o:Oper}
theorem Jjk(hG:Uq Y.gl (okN X) X.w)(hr:X.res=[])(hp:X.pin=none){names:List Nat}{Zs Mb:List (Nat×Ob)}{acc:List EC}{E:Nat→Bool}{B Ve:List En}{i:Nat}{g:EC}{tch ro bs pr:List Nat}{S1:XS}
  (h:Rel X β ρ ⟨L0 E acc 0++B,Bi names Zs acc E++Mb⟩ a w) (hg:acc[i]?=some g) (hi:E i=false) (hnn:names.Nodup) (hnd:(tch++ro++bs).Nodup) (hsub:∀id∈tch++ro++bs,id∈names)
  (hearly:∀id∈tch++ro,∀(j:Nat) g',acc[j]?=some g'→j<i→Ko id g'=true→E j=true) (hlate:∀id∈tch++ro++bs,∀(j:Nat) g',acc[j]?=some g'→i<j→Ko id g'=true→E j=false)
  (hbs:∀id∈bs,Yy E id acc 0 (Qh Zs id)=none) (hVe:∀e∈Ve,e∈L0 E acc 0++B) (hups:g.ups=(tch++bs).map fun id=>(id,Qh S1.mem id)) (hgd:g.has=true→∃cs,(⟨g.d,cs,g.av⟩:En)∈S1.env∧cs=[]) (hod:∀d,o.dst=some d→d=g.d)
  (hnt:Wq ((tch.filterMap fun id=>Kz id (Yy Hf id (acc.take i) 0 (Qh Zs id)))++ro.filterMap fun id=>Kz id (Yy Hf id (acc.take i) 0 (Qh Zs id)))=true)
  (hF:∀e∈L0 E acc 0++B,(∀i∈Jg e.av,i∈pr)∧∀d,o.dst=some d→e.t≠d∧∀c∈e.cs,c.1≠d) (hFm:∀id∈Jp (((names.filter fun j=>!Yl (tch++ro++bs) j).filterMap fun id=>Kz id (Yy E id acc 0 (Qh Zs id)))++Mb),id∈pr)
  (hstep:∀(X1:Cx) (Q1:Exit→Act→World→Prop),X1.n=X.n→X1.res=[]→X1.pin=none→Uq Y.gl (okN X1) X1.w→Rel X1 β ρ ⟨Ve,(tch.filterMap fun id=>Kz id (Yy Hf id (acc.take i) 0 (Qh Zs id)))++ro.filterMap fun id=>Kz id (Yy Hf id (acc.take i) 0 (Qh Zs id))⟩ a w→(∀β' ρ' a' w',agP pr β β' ρ ρ'→Rel X1 β' ρ' ⟨S1.env,S1.mem++(ro.filterMap fun id=>Kz id (Yy Hf id (acc.take i) 0 (Qh Zs id)))⟩ a' w'→Q1 .normal a' w')→wpList P ops Q1 [o] a w)
  (H:∀β' ρ' a' w',agP pr β β' ρ ρ'→Rel X β' ρ' ⟨L0 (Qf1 E i) acc 0++B,Bi names Zs acc (Qf1 E i)++Mb⟩ a' w'→Q .normal a' w'):wpList P ops Q [o] a w:=by
 have hpart:=Jeq hnd hnn hsub
 have hnow:∀id∈tch++ro,Yy E id acc 0 (Qh Zs id)=Yy Hf id (acc.take i) 0 (Qh Zs id):=fun id hm=>Jjh hg hi (hearly id hm) (hlate id (List.mem_append_left _ hm))
 have hT:(tch.filterMap fun id=>Kz id (Yy E id acc 0 (Qh Zs id)))=tch.filterMap fun id=>Kz id (Yy Hf id (acc.take i) 0 (Qh Zs id)):=(Y7 fun id hm=>by rw[hnow id (List.mem_append_left _ hm)])
 have hR:(ro.filterMap fun id=>Kz id (Yy E id acc 0 (Qh Zs id)))=ro.filterMap fun id=>Kz id (Yy Hf id (acc.take i) 0 (Qh Zs id)):=(Y7 fun id hm=>by rw[hnow id (List.mem_append_right _ hm)])
 have hB0:(bs.filterMap fun id=>Kz id (Yy E id acc 0 (Qh Zs id)))=[]:=by
  rw[KK]
  intro id hm
  rw[hbs id hm]; rfl
 have hpm:(Bi names Zs acc E++Mb).Perm ((tch.filterMap fun id=>Kz id (Yy Hf id (acc.take i) 0 (Qh Zs id)))++(ro.filterMap fun id=>Kz id (Yy Hf id (acc.take i) 0 (Qh Zs id)))++(((names.filter fun j=>!Yl (tch++ro++bs) j).filterMap fun id=>Kz id (Yy E id acc 0 (Qh Zs id)))++Mb)):=by
  have h1:=hpart.filterMap fun id=>Kz id (Yy E id acc 0 (Qh Zs id))
  rw[JH,JH,JH,hT,hR,hB0,QC]at h1
  rw[←List.append_assoc]
  exact h1.append_right Mb
 have h2:Rel X β ρ ⟨Ve++(L0 E acc 0++B),_⟩ a w:=Rel.less (Rel.permM h hpm) fun e he=>by
  grind
 refine Jjg hG hr hp h2 hnt hF hFm hstep fun β' ρ' a' w' hag hR1=>H β' ρ' a' w' hag ?_
 have htc:∀id,Ko id g=decide (id∈tch++bs):=fun id=>by
  unfold Ko
  rw[hups,Sx]
  by_cases hm:id∈tch++bs
  ·rw[if_pos hm]; simp[Fk,hm]
  simp_all [if_neg,Fk]
 have hup:∀id∈tch++bs,Yy (Qf1 E i) id acc 0 (Qh Zs id)=Qh S1.mem id:=fun id hm=>by
  have hm3:id∈tch++ro++bs:=by
   grind
  rw[Jji hg hi (hlate id hm3)]
  unfold upC
  rw[hups,Sx,if_pos hm]
 have hoff:∀id,id∉tch++bs→Yy (Qf1 E i) id acc 0 (Qh Zs id)=Yy E id acc 0 (Qh Zs id):=fun id hm=>Jjj hg (by rw[htc]; simpa using hm)
 have hnd2:=List.nodup_append.1 hnd
 have hnd3:=List.nodup_append.1 hnd2.1
 have hndtb:(tch++bs).Nodup:=by
  rw[List.nodup_append]
  grind
 have hpm2:(Bi names Zs acc (Qf1 E i)++Mb).Perm ((Jt S1.mem (tch++bs)).2++(ro.filterMap fun id=>Kz id (Yy Hf id (acc.take i) 0 (Qh Zs id)))++(((names.filter fun j=>!Yl (tch++ro++bs) j).filterMap fun id=>Kz id (Yy E id acc 0 (Qh Zs id)))++Mb)):=by
  have h1:=hpart.filterMap fun id=>Kz id (Yy (Qf1 E i) id acc 0 (Qh Zs id))
  rw[JH,JH,JH]at h1
  have e1:((tch.filterMap fun id=>Kz id (Yy (Qf1 E i) id acc 0 (Qh Zs id)))++(bs.filterMap fun id=>Kz id (Yy (Qf1 E i) id acc 0 (Qh Zs id))))=(Jt S1.mem (tch++bs)).2:=by
   rw[Qlt hndtb,←JH]
   grind [Y7,id]
  have e2:(ro.filterMap fun id=>Kz id (Yy (Qf1 E i) id acc 0 (Qh Zs id)))=(ro.filterMap fun id=>Kz id (Yy Hf id (acc.take i) 0 (Qh Zs id))):=by
   rw[←hR]
   refine Y7 fun id hm=>by
    rw[hoff id fun hm2=>?_]
    grind
  have e3:((names.filter fun j=>!Yl (tch++ro++bs) j).filterMap fun id=>Kz id (Yy (Qf1 E i) id acc 0 (Qh Zs id)))=(names.filter fun j=>!Yl (tch++ro++bs) j).filterMap fun id=>Kz id (Yy E id acc 0 (Qh Zs id)):=by
   refine Y7 fun id hm=>by
    rw[hoff id fun hm2=>?_]
    have h3:=(QU.1 hm).2
    grind
  rw[e2,e3]at h1
  rw[←e1,←List.append_assoc]
  refine(h1.append_right Mb).trans ?_
  refine List.Perm.append_right _ (List.Perm.append_right _ ?_)
  rw[List.append_assoc,List.append_assoc]
  exact List.Perm.append_left _ JI
 have hsp:(S1.mem++(ro.filterMap fun id=>Kz id (Yy Hf id (acc.take i) 0 (Qh Zs id)))++(((names.filter fun j=>!Yl (tch++ro++bs) j).filterMap fun id=>Kz id (Yy E id acc 0 (Qh Zs id)))++Mb)).Perm ((Jt S1.mem (tch++bs)).1++((Jt S1.mem (tch++bs)).2++(ro.filterMap fun id=>Kz id (Yy Hf id (acc.take i) 0 (Qh Zs id)))++(((names.filter fun j=>!Yl (tch++ro++bs) j).filterMap fun id=>Kz id (Yy E id acc 0 (Qh Zs id)))++Mb))):=by
  have h1:=(K1 (tch++bs) S1.mem).symm.trans JI
  have h3:=(h1.append_right (ro.filterMap fun id=>Kz id (Yy Hf id (acc.take i) 0 (Qh Zs id)))).append_right (((names.filter fun j=>!Yl (tch++ro++bs) j).filterMap fun id=>Kz id (Yy E id acc 0 (Qh Zs id)))++Mb)
  grind
 have hR2:=Rel.permM hR1 hsp
 have hR3:Rel X β' ρ' ⟨S1.env++(L0 E acc 0++B),(Jt S1.mem (tch++bs)).2++(ro.filterMap fun id=>Kz id (Yy Hf id (acc.take i) 0 (Qh Zs id)))++(((names.filter fun j=>!Yl (tch++ro++bs) j).filterMap fun id=>Kz id (Yy E id acc 0 (Qh Zs id)))++Mb)⟩ a' w':=Sb.subO hR2 ((List.sublist_append_right _ _).map _)
 refine Rel.less (Rel.permM hR3 hpm2.symm) fun e he=>?_
 rcases QZ.1 he with he | he
 ·obtain⟨k,g',q1,q2,q3,rfl⟩:=Qjw he
  rw[QY]at q2
  by_cases hki:k=i
  ·grind
  ·simp only[Qf1]at q2
   rw[show(k==i)=false by simp; omega,VY]at q2
   exact List.mem_append_right _ (List.mem_append_left _ (Qy6 q1 (by rw[QY]; exact q2) q3))
 grind
end
end Gx

/- A region of open order by ordinary steps: the interpreter. -/
namespace Gx
open Go Go.RowKit Gd
set_option linter.unusedVariables false
set_option linter.unusedSimpArgs false
theorem Qwb:∀{acc:List EC} {t:Nat} {v:AV},Qjk acc t=some v→∃g∈acc,g.d=t∧g.has=true∧g.av=v
 | [],t,v,h=>by simp[Qjk]at h
 | g::l,t,v,h=>by
  simp only[Qjk]at h
  cases hb:(Nat.beq g.d t&&g.has)with
  | true =>
   rw[hb]at h
   simp_all
  | false =>
   rw[hb]at h
   obtain⟨g',h1,h2⟩:=Qwb h
   grind
theorem Sy{l0:List Oper}{ds:List Nat}{i:Nat}{acc:List EC}{B:List En}:∀{ts:List Nat} {e:En},e∈Qrb l0 ds i acc B ts →
  (e.cs=[]∧Qjk acc e.t=some e.av∧Qvg l0 i (ds.idxOf e.t)=true)∨e∈B
 | [],e,h=>by
  grind [Qjs,Qrb]
 | t::ts,e,h=>by
  simp only[Qrb]at h
  split at h
  ·rename_i v hv
   cases hp:Qvg l0 i (ds.idxOf t)with
   | true =>
    rw[hp]at h
    rcases QX.1 h with rfl | h
    ·grind
    ·exact Sy h
   | false=>rw[hp]at h; exact Sy h
  ·cases hb:Qnd ds t with
   | true =>
    rw[hb]at h
    simp only[cond_true]at h
    split at h
    ·rename_i t' v he
     obtain⟨h1,h2⟩:=Z3 he
     rcases QX.1 h with rfl | h
     ·exact .inr h1
     ·exact Sy h
    ·exact Sy h
   | false=>rw[hb]at h; exact Sy h
theorem Iy{l m:List Nat}(h:Qbw l m=true){x:Nat}(h1:x∈l)(h2:x∈m):False:=by
 have:=JX.1 h x h1
 rw[Qjt h2]at this; cases this
section
variable {R:Type} (Y:TX) (K:List Con) (n:Nat) (l0:List Oper) (ds:List Nat) (Zs:List (Nat×Ob)) (B:List En) (prA:List Nat)
def TrC:List HD→List Oper→Nat→List EC→List EC→Prop
 | [],[],_,_,[]=>True
 | hc::hs,o::l,i,acc,g::acc2=>(∃S1,Y4 (R:=XS) Y K n l0 hc.h [o] (Qrc l0 ds Zs B prA hc o i acc) some=some S1∧Qho n ds Zs hc o i acc S1=some g)∧TrC hs l (i+1) (acc++[g]) acc2
 | _,_,_,_,_=>False
end
section
variable {R:Type} {r:R} {Y:TX} {K:List Con} {n:Nat} {l0:List Oper} {ds:List Nat} {Zs:List (Nat×Ob)} {B:List En} {prA:List Nat}
theorem Qr4{acc:List EC}{t:Nat}{b:Bool}(h:Qjk acc t=some (.d .bool b)):Q2l acc t b=acc:=by
 induction acc with
 | nil=>rfl
 | cons g l ih =>
  simp only[Qjk]at h
  simp only[Q2l]
  cases hb:(Nat.beq g.d t&&g.has)with
  | true =>
   rw[hb]at h
   simp only[cond_true,Option.some.injEq]at h
   obtain⟨gd,gv,gh,gu⟩:=g
   grind
  | false =>
   rw[hb]at h
   grind
theorem Qp1:∀{ht:HT} {l:List Oper} {i:Nat} {hs:List HD} {acc:List EC} {k:Hn→List HD→List EC→Option R},Qrd Y K n l0 ds Zs B prA ht l i hs acc k=some r →
  ∃h hs2 acc2,k h (hs++hs2) (acc++acc2)=some r∧TrC Y K n l0 ds Zs B prA hs2 l i acc acc2∧∀x∈Xu hs2,x∈Dy ht
 | .tl h,[],i,hs,acc,k,hr=>⟨h,[],[],by grind [Qrd],trivial,by simp[Xu]⟩
 | .tl h,_::_,i,hs,acc,k,hr=>by simp[Qrd]at hr
 | .op hc t,[],i,hs,acc,k,hr=>by simp[Qrd]at hr
 | .op hc t,o::l,i,hs,acc,k,hr=>by
  simp only[Qrd]at hr
  obtain⟨S1,h1,h2⟩:=Qri hr
  split at h1
  ·rename_i g hg
   obtain⟨h,hs2,acc2,h3,h4,h5⟩:=Qp1 h1
   refine⟨h,hc::hs2,g::acc2,by simpa using h3,⟨⟨S1,h2,hg⟩,h4⟩,fun x hx=>?_⟩
   rcases QZ.1 hx with hx | hx
   ·exact List.mem_append_left _ hx
   ·exact List.mem_append_right _ (h5 x hx)
  ·cases h1
 | .so t a b,l,i,hs,acc,k,hr=>by
  simp only[Qrd]at hr
  split at hr
  ·rename_i v hv
   cases v with
   | true =>
    rw[if_pos rfl,Qr4 hv]at hr
    obtain⟨h,hs2,acc2,h3,h4,h5⟩:=Qp1 hr
    exact⟨h,hs2,acc2,h3,h4,fun x hx=>List.mem_append_left _ (h5 x hx)⟩
   | false =>
    rw[if_neg (by simp),Qr4 hv]at hr
    obtain⟨h,hs2,acc2,h3,h4,h5⟩:=Qp1 hr
    exact⟨h,hs2,acc2,h3,h4,fun x hx=>List.mem_append_right _ (h5 x hx)⟩
  ·cases hr
theorem TrC.get:∀{hs:List HD} {l:List Oper} {i:Nat} {acc acc2:List EC},TrC Y K n l0 ds Zs B prA hs l i acc acc2→acc2.length=l.length∧hs.length=l.length∧∀(j:Nat) o,l[j]?=some o→∃g hc S1,acc2[j]?=some g∧hs[j]?=some hc ∧
  Y4 (R:=XS) Y K n l0 hc.h [o] (Qrc l0 ds Zs B prA hc o (i+j) (acc++acc2.take j)) some=some S1∧Qho n ds Zs hc o (i+j) (acc++acc2.take j) S1=some g
 | [],[],i,acc,[],_=>⟨rfl,rfl,by simp⟩
 | [],[],i,acc,_::_,h=>h.elim
 | [],_::_,i,acc,_,h=>by simp[TrC]at h
 | _::_,[],i,acc,_,h=>by simp[TrC]at h
 | _::_,_::_,i,acc,[],h=>by simp[TrC]at h
 | hc::hs,o::l,i,acc,g::acc2,h=>by
  obtain⟨⟨S1,q1,q2⟩,h0⟩:=h
  obtain⟨h2,h2',h3⟩:=TrC.get h0
  refine⟨by simp[h2],by simp[h2'],fun j o' ho=>?_⟩
  cases j with
  | zero =>
   grind
  | succ j =>
   grind
end
end Gx

/- A region of open order by ordinary steps. -/
namespace Gx
open Go Go.RowKit Gd
set_option linter.unusedVariables false
set_option linter.unusedSimpArgs false
theorem Nj{n:Nat}{ds:List Nat}{Zs:List (Nat×Ob)}{hc:HD}{o:Oper}{i:Nat}{acc:List EC}{S1:XS}{g:EC}(h:Qho n ds Zs hc o i acc S1=some g) :
  Wq (Qgu hc.tch Zs acc++Qgu hc.ro Zs acc)=true∧Hh hc.nm (Jp S1.mem)=true∧(g.ups=(hc.tch++hc.bs).map fun id=>(id,Qh S1.mem id))∧ds.getD i 0=g.d∧Hh hc.nm (Jg g.av)=true∧(∀d,o.dst=some d→d=g.d∧d<n)∧(g.has=true→∃cs,(⟨g.d,cs,g.av⟩:En)∈S1.env∧cs=[])∧(o.dst=none→n≤1000000000→n≤g.d):=by
 unfold Qho at h
 obtain⟨hb,h⟩:=bvT h
 simp only[QJ]at hb
 split at h
 ·rename_i d hd
  split at h
  ·rename_i t av hl
   obtain⟨hb2,h⟩:=bvT h
   simp only[QJ]at hb2
   simp only[Option.some.injEq]at h
   subst h
   obtain⟨hm,ht⟩:=Z3 hl
   simp_all
  ·cases h
 ·rename_i hd
  obtain⟨hb2,h⟩:=bvT h
  simp only[Option.some.injEq]at h
  subst h
  exact⟨hb.1,hb.2,rfl,Nat.eq_of_beq_eq_true hb2,(by trivial),(fun d' hd'=>by rw[hd]at hd'; cases hd'),(fun h=>by cases h),fun _ hn=>by grind⟩
theorem Qdi:∀{l m:List (Nat×Ob)} {i:Nat},i∈Jp (l++m)→i∈Jp l∨i∈Jp m
 | [],m,i,h=>.inr h
 | (k,ob)::l,m,i,h=>by
  have key:∀{xs:List Nat},i∈xs++Jp (l++m)→i∈xs++Jp l∨i∈Jp m:=fun {xs} h=>by
   rcases QZ.1 h with h | h
   ·grind
   ·exact(Qdi h).imp (List.mem_append_right _) id
  cases ob with
  | var t c=>grind [Jg,Jp,id]
  | mapC a b xs hole =>
   cases hole with
   | none=>exact key (xs:=[k]) (by simpa[Jp]using h) |>.imp (by simp[Jp]) id
   | some q=>exact key (xs:=[k,q.2]) (by grind [Jp]) |>.imp (by simp[Jp]) id
  | _=>exact key (xs:=[k]) (by simpa[Jp]using h) |>.imp (by simp[Jp]) id
theorem Qr5{f:Nat→Option Ob}{i:Nat}:∀{ids:List Nat},i∈Jp (ids.filterMap fun id=>Kz id (f id))→∃id∈ids,∃ob,f id=some ob∧i∈Jp [(id,ob)]
 | [],h=>by cases h
 | id::ids,h=>by
  simp only[JR]at h
  cases hf:f id with
  | none =>
   rw[hf]at h
   obtain⟨id',h1,ob,h2,h3⟩:=Qr5 (ids:=ids) h
   grind
  | some ob =>
   rw[hf]at h
   rcases Qdi (l:=[(id,ob)]) h with h | h
   ·grind
   ·obtain⟨id',h1,ob',h2,h3⟩:=Qr5 (ids:=ids) h
    grind
theorem Qwc{M:List (Nat×Ob)}{id i:Nat}{ob:Ob}:Qh M id=some ob→i∈Jp [(id,ob)]→i∈Jp M:=by
 intro h hi
 obtain⟨l1,l2,e,w1,w2⟩:=J2 h
 rw[e]
 clear e h w1 w2
 induction l1 with
 | nil =>
  have key:∀{xs ys:List Nat},i∈xs++[]→i∈xs++ys:=fun h=>List.mem_append_left _ (by simpa using h)
  cases ob with
  | var t c=>have:=key (xs:=id::Jg c) (ys:=Jp l2) (by grind [Jp]); grind [Jp]
  | mapC a b xs hole =>
   cases hole with
   | none=>have:=key (xs:=[id]) (ys:=Jp l2) (by simp_all [Jp]); simp_all [Jp]
   | some q=>have:=key (xs:=[id,q.2]) (ys:=Jp l2) (by grind [Jp]); grind [Jp]
  | _=>have:=key (xs:=[id]) (ys:=Jp l2) (by simpa[Jp]using hi); grind [Jp]
 | cons q l ih =>
  obtain⟨k,x⟩:=q
  cases x with
  | var t c=>grind [Jp,List.mem_append_right]
  | mapC a b xs hole =>
   cases hole with
   | none=>simp_all [QM,Jp]
   | some q=>grind [Jp]
  | _=>grind [Jp]
theorem Q3c{E:Nat→Bool}{id:Nat}{ob:Ob}:∀{l:List EC} {j:Nat} {c:Option Ob},Yy E id l j c=some ob→c=some ob∨∃(k:Nat) (g:EC),l[k]?=some g∧E (j+k)=true∧Qnp g.ups id=some (some ob)
 | [],j,c,h=>.inl h
 | g0::l,j,c,h=>by
  simp only[Yy]at h
  rcases Q3c h with h1 | ⟨k,g,h1,h2,h3⟩
  ·cases hE:E j with
   | false=>rw[hE]at h1; exact .inl h1
   | true =>
    rw[hE]at h1
    simp only[cond_true,upC]at h1
    cases hl:Qnp g0.ups id with
    | none=>rw[hl]at h1; exact .inl h1
    | some x=>rw[hl]at h1; simp only at h1; subst h1; exact .inr ⟨0,g0,rfl,hE,hl⟩
  ·exact .inr ⟨k+1,g,by simpa using h1,by rw[show j+(k+1)=j+1+k by omega]; exact h2,h3⟩
end Gx

/- A region of open order by ordinary steps: sound. -/
namespace Gx
open Go Go.RowKit Gd
set_option linter.unusedVariables false
set_option linter.unusedSimpArgs false
theorem Qwd:∀{hs:List HD} {i:Nat},(∃hc∈hs,i∈hc.bs)→i∈Xu hs
 | [],i,⟨_,h,_⟩=>by cases h
 | h::l,i,⟨hc,hm,hi⟩=>by
  rcases QX.1 hm with rfl | hm
  ·exact List.mem_append_left _ hi
  ·exact List.mem_append_right _ (Qwd ⟨hc,hm,hi⟩)
theorem Q8d{l0:List Oper}{hs:List HD}(h:Juz l0 hs=true){i j:Nat}{hi hj:HD}(h1:hs[i]?=some hi)(h2:hs[j]?=some hj)(hji:j<i):Qjl l0 i j hi hj=true:=by
 have hil:=(List.getElem?_eq_some_iff.1 h1).1
 have:=JX.1 (JX.1 h i (JL.2 hil)) j (JL.2 hji)
 rw[h1,h2]at this
 exact this
theorem Ju8{l0:List Oper}{hs:List HD}(h:nmB l0 hs=true){i j:Nat}{hi hj:HD}(h1:hs[i]?=some hi)(h2:hs[j]?=some hj)(hji:i≠j):Qbw hi.bs hj.nm=true∨Bd l0 l0.length j i=true:=by
 have hil:=(List.getElem?_eq_some_iff.1 h1).1
 have hjl:=(List.getElem?_eq_some_iff.1 h2).1
 have:=JX.1 (JX.1 h i (JL.2 hil)) j (JL.2 hjl)
 rw[h1,h2]at this
 simp_all
theorem Qwe{m:List (Nat×Ob)}{i:Nat}:∀{l:List (Nat×Ob)},i∈Jp l→i∈Jp (l++m)
 | [],h=>by cases h
 | (k,x)::l,h=>by
  have key:∀{xs:List Nat},i∈xs++Jp l→i∈xs++Jp (l++m):=fun {xs} h=>by
   rcases QZ.1 h with h | h
   ·grind
   ·exact List.mem_append_right _ (Qwe h)
  cases x with
  | var t c=>have:=key (xs:=k::Jg c) (by grind [Jp]); grind [Jp]
  | mapC a b xs hole =>
   cases hole with
   | none=>have:=key (xs:=[k]) (by simpa[Jp]using h); simp_all [Jp]
   | some q=>have:=key (xs:=[k,q.2]) (by grind [Jp]); grind [Jp]
  | _=>have:=key (xs:=[k]) (by simpa[Jp]using h); grind [Jp]
theorem Qr6{m:List (Nat×Ob)}{i:Nat}(h:i∈Jp m):∀{l:List (Nat×Ob)},i∈Jp (l++m)
 | []=>h
 | (k,x)::l=>by
  have ih:=Qr6 h (l:=l)
  cases x with
  | var t c=>grind [Jp,List.mem_append_right]
  | mapC a b xs hole =>
   cases hole with
   | none=>simp_all [QM,Jp]
   | some q=>grind [Jp]
  | _=>grind [Jp]
theorem Qr7{E E':Nat→Bool}:∀{acc:List EC} {j:Nat},(∀k,k<acc.length→E (j+k)=E' (j+k))→L0 E acc j=L0 E' acc j
 | [],_,_=>rfl
 | g::l,j,h=>by
  have h0:=h 0 (by simp)
  rw[XU]at h0
  have ih:L0 E l (j+1)=L0 E' l (j+1):=Qr7 fun k hk=>by
   have:=h (k+1) (by grind)
   rwa[show j+(k+1)=j+1+k by omega]at this
  grind [L0]
theorem Qwf:∀{acc:List EC} {j:Nat},L0 (fun _=>false) acc j=[]
 | [],_=>rfl
 | g::l,j=>by simp only[L0,Bool.false_and,cond_false]; exact Qwf
theorem Jer{Zs:List (Nat×Ob)}{bs:List Nat}{acc:List EC}(hN:(Vn Zs++bs).Nodup):Bi (Vn Zs++bs) Zs acc (fun _=>false)=Zs:=by
 unfold Bi
 have h0:∀id c,Yy (fun _=>false) id acc 0 c=c:=fun id c=>Ni fun _ _ _ _=>rfl
 obtain⟨n1,n2,n3⟩:=List.nodup_append.1 hN
 rw[JH]
 have e2:(bs.filterMap fun id=>Kz id (Yy (fun _=>false) id acc 0 (Qh Zs id)))=[]:=by
  rw[KK]
  intro d hd
  rw[h0]
  cases hl:Qh Zs d with
  | none=>rfl
  | some ob=>exact absurd rfl (n3 d (Qdg (by rw[hl]; rfl)) d hd)
 rw[e2,QC]
 unfold Vn
 rw[List.filterMap_map]
 simp_all [Y7,VV,Function.comp,Qhq,Kz]
section
variable {P:Program} {Y:TX} {X:Cx} {K:List Con} {n:Nat} {l0:List Oper} {ds:List Nat} {Zs Mb:List (Nat×Ob)} {B:List En} {prA prB:List Nat} {R:Type} {r:R} {β:Nat→Nat} {ρ:Nat→Value} {a:Act} {w:World}
theorem Q8e(hT:Q9 P Y.T)(hmix:P.follows .mixedOrders=true)(hK:KsX P Y X K)(hX:X.n=n)(hr:X.res=[])(hp:X.pin=none){ht:HT}{p:Nat}(h:Rel X β ρ ⟨B,Zs++Mb⟩ a w)
  (hBt:∀e∈B,∀d∈ds,d<n→e.t≠d∧∀c∈e.cs,c.1≠d) (hBi:∀e∈B,∀i∈Jg e.av,i∈prB) (hMi:∀i∈Jp (Zs++Mb),i∈prB)
  (hb:Jay l0 p ds=true) {k:Hn→List HD→List EC→Option R} (hs:Qrd Y K n l0 ds Zs B prA ht (l0.take p) 0 [] [] k=some r)
  (hch:∀h hs0 acc,k h hs0 acc=some r→Jod l0 (Vn Zs) prB prA hs0=true) (hpA:∀i∈prB,i∈prA) {id:Nat} {Q:Exit→Act→World→Prop}
  (H:∀β' ρ' a' w' h hs0 acc,k h hs0 acc=some r→(∀(x:Nat),(∀hc∈hs0,x∉hc.wr)→∀g∈acc,Ko x g=false)→(∀x∈Xu hs0,x∈Dy ht)→agP prB β β' ρ ρ'→Rel X β' ρ' ⟨L0 Hf acc 0++B,Bi (Vn Zs++Xu hs0) Zs acc Hf++Mb⟩ a' w'→wpList P ⟨l0⟩ Q (l0.drop p) a' w'):(Code.region id ⟨l0⟩ true).wp P Q a w:=by
 unfold Jay at hb
 simp only[QJ]at hb
 obtain⟨⟨⟨⟨hple,hlen⟩,hback⟩,hfin⟩,hndB⟩:=hb
 have hnd:=Qvh hndB
 have hpl:=QW hple
 have hdl:=Nat.eq_of_beq_eq_true hlen
 obtain⟨hn,hs0,acc,hk,htr,hbT⟩:=Qp1 hs
 simp only[QV]at hk
 have hchk:=hch _ _ _ hk
 unfold Jod at hchk
 simp only[QJ]at hchk
 obtain⟨⟨⟨⟨⟨hcf,hnm⟩,hNb⟩,hapB⟩,hNAb⟩,hall0⟩:=hchk
 have hN:=Sw hNb
 have hNA:∀i∈Vn Zs++Xu hs0,i∈prA:=fun i hi=>At hNAb i hi
 have hprB:∀i∈prB,i∈prA∧i∉Xu hs0:=fun i hi=>⟨hpA i hi,fun h2=>Iy hapB hi h2⟩
 have hal0:∀hc∈hs0,Nu hc.al=true∧Hh (Vn Zs++Xu hs0) hc.al=true∧Hh prA hc.nm=true:=fun hc hm=>by
  have:=JX.1 hall0 hc hm
  grind
 have hNm:∀hc∈hs0,∀i∈hc.nm,i∈prA:=fun hc hm i hi=>At (hal0 hc hm).2.2 i hi
 have hal:∀hc∈hs0,(hc.tch++hc.ro++hc.bs).Nodup∧∀i∈hc.tch++hc.ro++hc.bs,i∈Vn Zs++Xu hs0:=fun hc hm=>⟨Sw (hal0 hc hm).1,fun i hi=>At (hal0 hc hm).2.1 i hi⟩
 obtain⟨hal1,hal2,hall⟩:=htr.get
 have hap:acc.length=p:=by rw[hal1,List.length_take]; omega
 simp only[QV,QY]at hall
 have hget:∀(i:Nat) o,i<p→l0[i]?=some o→∃g hc S1,acc[i]?=some g∧hs0[i]?=some hc∧Y4 (R:=XS) Y K n l0 hc.h [o] (Qrc l0 ds Zs B prA hc o i (acc.take i)) some=some S1∧Qho n ds Zs hc o i (acc.take i) S1=some g:=fun i o hi ho=>hall i o (by rw[JC,if_pos hi]; exact ho)
 have hof:∀(j:Nat) g,acc[j]?=some g→j<p∧∃o hc S1,l0[j]?=some o∧hs0[j]?=some hc∧Qho n ds Zs hc o j (acc.take j) S1=some g:=fun j g hg=>by
  have hj:j<p:=by have:=(List.getElem?_eq_some_iff.1 hg).1; omega
  obtain⟨g',hc,S1,q1,q2,_,q4⟩:=hget j l0[j] hj (List.getElem?_eq_getElem (by omega))
  rw[hg]at q1; grind
 have htch:∀(j:Nat) g hc x,acc[j]?=some g→hs0[j]?=some hc→Ko x g=true→x∈hc.wr:=fun j g hc x hg hh ht=>by
  obtain⟨_,o,hc',S1,_,q2,q3⟩:=hof j g hg
  rw[hh]at q2; injection q2 with q2; subst q2
  unfold Ko at ht
  rw[(Nj q3).2.2.1,Sx]at ht
  by_cases hm:x∈hc.tch++hc.bs
  ·exact hm
  simp_all [if_neg,Fk]
 have hdsj:∀(j:Nat) g,acc[j]?=some g→ds[j]?=some g.d:=fun j g hg=>by
  obtain⟨hj,o,hc,S1,_,_,q3⟩:=hof j g hg
  exact Jem (by omega) (Nj q3).2.2.2.1
 have hno:∀(x:Nat),(∀hc∈hs0,x∉hc.wr)→∀g∈acc,Ko x g=false:=fun x hx g hg=>by
  grind [List.getElem?_of_mem,Ko,absurd,List.mem_of_getElem?]
 refine Q8b (fun E a w=>∃β' ρ',agP prB β β' ρ ρ'∧Rel X β' ρ' ⟨L0 E acc 0++B,Bi (Vn Zs++Xu hs0) Zs acc E++Mb⟩ a w) hmix p (fun E E' a w hE ⟨β',ρ',q1,q2⟩=>⟨β',ρ',q1,?_⟩) hple hback hfin ⟨β,ρ,agP.refl _ _ _,?_⟩ (fun E i o a w Q' hip ho hcl hEi hpre ⟨β1,ρ1,hag,hR⟩ hQ=>?_) fun a' w' ⟨β',ρ',q1,q2⟩=>H β' ρ' a' w' hn hs0 acc hk hno hbT q1 q2
 ·have e1:L0 E acc 0=L0 E' acc 0:=Qr7 fun k hk=>by rw[QY]; grind
  have e2:Bi (Vn Zs++Xu hs0) Zs acc E=Bi (Vn Zs++Xu hs0) Zs acc E':=Y7 fun id _=>by
   rw[N2 (E:=E) (E':=E') fun k e hk _=>by rw[QY]; grind]
  rw[e1,e2]at q2
  exact q2
 ·rw[Qwf,Jer hN]
  exact Sb.below h ((Below.refl _ _).drew)
 ·obtain⟨g,hc,S1,hg,hhc,hrun,hst⟩:=hget i o hip ho
  obtain⟨t1,t2,t3,t4,t5,t6,t7,t8⟩:=Nj hst
  obtain⟨al1,al2⟩:=hal hc (List.mem_of_getElem? hhc)
  have hlateB:∀j,Bd l0 l0.length j i=true→E j=false:=fun j hbj=>by
   cases hE:E j with
   | false=>rfl
   | true =>
    have:E i=true:=Sg hcl l0.length j i hbj fun o' ho' e he hb'=>hcl j o' hE ho' e he hb'
    rw[hEi]at this; cases this
  have hearB:∀j,Bd l0 l0.length i j=true→E j=true:=fun j hbj=>Sg hcl l0.length i j hbj fun o' ho' e he hb'=>by rw[ho]at ho'; grind
  have hlate:∀id∈hc.tch++hc.ro++hc.bs,∀(j:Nat) g',acc[j]?=some g'→i<j→Ko id g'=true→E j=false:=fun id hm j g' hj hij ht=>by
   obtain⟨hjp,oj,hcj,S1j,p1,p2,p3⟩:=hof j g' hj
   have hw:=htch j g' hcj id hj p2 ht
   have hse:=Q8d hcf p2 hhc hij
   unfold Qjl at hse
   simp only[QJ,JU]at hse
   rcases hse.1 with⟨s1,s2⟩ | s1
   ·exfalso
    rcases QZ.1 hm with hm | hm
    ·rcases QZ.1 hm with hm | hm
     ·exact Iy s1 (List.mem_append_left _ hm:id∈hc.wr) (by
       rcases QZ.1 hw with q | q
       ·exact List.mem_append_left _ (List.mem_append_left _ q)
       ·exact List.mem_append_right _ q)
     grind [Iy]
    ·exact Iy s1 (List.mem_append_right _ hm:id∈hc.wr) (by
       rcases QZ.1 hw with q | q
       ·exact List.mem_append_left _ (List.mem_append_left _ q)
       ·exact List.mem_append_right _ q)
   grind
  have hearly:∀id∈hc.tch++hc.ro,∀(j:Nat) g',acc[j]?=some g'→j<i→Ko id g'=true→E j=true:=fun id hm j g' hj hij ht=>by
   obtain⟨hjp,oj,hcj,S1j,p1,p2,p3⟩:=hof j g' hj
   have hw:=htch j g' hcj id hj p2 ht
   have hse:=Q8d hcf hhc p2 hij
   unfold Qjl at hse
   simp only[QJ,JU]at hse
   rcases hse.1 with⟨s1,s2⟩ | s1
   ·exact(Iy s1 hw (List.mem_append_left _ hm)).elim
   grind
  have hbsA:∀id∈hc.bs,id∈Xu hs0:=fun id hm=>Qwd ⟨hc,List.mem_of_getElem? hhc,hm⟩
  have hbs:∀id∈hc.bs,Yy E id acc 0 (Qh Zs id)=none:=fun id hm=>by
   have hz:Qh Zs id=none:=by
    cases hl:Qh Zs id with
    | none=>rfl
    | some ob=>exact absurd rfl ((List.nodup_append.1 hN).2.2 id (Qdg (by rw[hl]; rfl)) id (hbsA id hm))
   rw[hz]
   refine Ni fun j g' hj ht=>?_
   rw[QY]
   rcases KH j i with hji | hji | hji
   ·obtain⟨hjp,oj,hcj,S1j,p1,p2,p3⟩:=hof j g' hj
    have hse:=Q8d hcf hhc p2 hji
    unfold Qjl at hse
    simp only[QJ]at hse
    grind [Iy,id]
   ·rw[hji]; exact hEi
   grind
  have hprs:∀x∈prB,x∈Qjm prA hc.bs:=fun x hx=>by
   obtain⟨q1,q2⟩:=hprB x hx
   refine QU.2 ⟨q1,?_⟩
   grind [Yl,absurd,Qjr]
  have hnmj:∀(j:Nat) g',acc[j]?=some g'→E j=true→∀hcj,hs0[j]?=some hcj→∀x∈hcj.nm,x∈Qjm prA hc.bs:=fun j g' hj hE hcj p2 x hx=>by
   refine QU.2 ⟨hNm hcj (List.mem_of_getElem? p2) x hx,?_⟩
   cases hm:Yl hc.bs x with
   | false=>rfl
   | true =>
    have hij:i≠j:=fun e=>by grind
    rcases Ju8 hnm hhc p2 hij with q | q
    ·grind [Iy,Qjr]
    grind
  refine Jjk hK.2 hr hp (S1:=S1) (tch:=hc.tch) (ro:=hc.ro) (bs:=hc.bs) (pr:=Qjm prA hc.bs) (Ve:=Qrb l0 ds i (acc.take i) B (Q71 o++gTs l0 o)) hR hg hEi hN al1 al2 hearly hlate hbs (fun e he=>?_) t3 t7 (fun d hd=>(t6 d hd).1) t1 (fun e he=>?_) (fun x hx=>?_) (fun X1 Q1 x1 x2 x3 x4 x5 x6=>?_) fun β' ρ' a' w' y1 y2=>hQ a' w' ⟨β',ρ',agP.trans hag fun x hx=>y1 x (hprs x hx),y2⟩
  ·rcases Sy he with⟨v1,v2,v3⟩ | v1
   ·obtain⟨g',m1,m2,m3,m4⟩:=Qwb v2
    obtain⟨j,hj⟩:=List.getElem?_of_mem m1
    rw[JC]at hj
    split at hj
    ·rename_i hji
     have hd':=hdsj j g' hj
     have hix:ds.idxOf e.t=j:=by
      have hjl:=(List.getElem?_eq_some_iff.1 hd').1
      have:=hnd.idxOf_getElem j hjl
      rw[(List.getElem?_eq_some_iff.1 hd').2,m2]at this
      exact this
     rw[hix]at v3
     have hEj:E j=true:=by
      simp only[Qvg,ho]at v3
      obtain⟨e',he',hb'⟩:=ZI.1 v3
      simp only[QJ]at hb'
      rw[←Nat.eq_of_beq_eq_true hb'.2]
      grind
     refine List.mem_append_left _ ?_
     have:=Qy6 (E:=E) (acc:=acc) (j:=0) (k:=j) hj (by rw[QY]; exact hEj) m3
     obtain⟨et,ecs,eav⟩:=e
     grind
    ·cases hj
   grind
  ·rcases QZ.1 he with he | he
   ·obtain⟨j,g',q1,q2,q3,rfl⟩:=Qjw he
    rw[QY]at q2
    obtain⟨hjp,oj,hcj,S1j,p1,p2,p3⟩:=hof j g' q1
    refine⟨fun x hx=>hnmj j g' q1 q2 hcj p2 x (At (Nj p3).2.2.2.2.1 x hx),fun d hd=>⟨fun e=>?_,by simp⟩⟩
    have e1:=(t6 d hd).1
    have d1:=hdsj j g' q1
    have d2:=hdsj i g hg
    have hij:j=i:=by
     obtain⟨b1,c1⟩:=List.getElem?_eq_some_iff.1 d1
     obtain⟨b2,c2⟩:=List.getElem?_eq_some_iff.1 d2
     have a1:=hnd.idxOf_getElem j b1
     have a2:=hnd.idxOf_getElem i b2
     rw[show ds[j]=ds[i]from c1.trans (e.trans (e1.trans c2.symm))]at a1
     grind
    rw[hij,hEi]at q2; cases q2
   grind
  ·rcases Qdi hx with hx | hx
   ·obtain⟨id,h1,ob,h2,h3⟩:=Qr5 hx
    rcases Q3c h2 with h6 | ⟨j,g',q1,q2,q3⟩
    ·exact hprs x (hMi x (Qwe (Qwc h6 h3)))
    ·rw[QY]at q2
     obtain⟨hjp,oj,hcj,S1j,p1,p2,p3⟩:=hof j g' q1
     refine hnmj j g' q1 q2 hcj p2 x (At (Nj p3).2.1 x ?_)
     rw[(Nj p3).2.2.1,Sx]at q3
     split at q3
     ·exact Qwc (Option.some.inj q3) h3
     ·cases q3
   grind [Qr6]
  ·have hflat:(Qrc l0 ds Zs B prA hc o i (acc.take i)).flat=⟨Qrb l0 ds i (acc.take i) B (Q71 o++gTs l0 o),Qgu hc.tch Zs (acc.take i)++Qgu hc.ro Zs (acc.take i)⟩:=by
    simp only[XS.flat,Qrc,QC]
   have:=Vu hT (X:=X1) ⟨hK.1,x4⟩ (x1.trans hX) x2 (Q:=Q1) hc.h (l:=[o]) (rest:=[]) (S:=Qrc l0 ds Zs B prA hc o i (acc.take i)) (a:=a) (w:=w) (by rw[hflat]; exact x5) hrun fun β' ρ' S' a' w' k1 k2 k3=>by
    simp only[Option.some.injEq]at k1
    subst k1
    have kf:S'.fix=[]:=k2.fix
    have km:S'.fixM=Qgu hc.ro Zs (acc.take i):=k2.fixM
    refine x6 β' ρ' a' w' k2.ag ?_
    have e:S'.flat=⟨S'.env,S'.mem++Qgu hc.ro Zs (acc.take i)⟩:=by simp only[XS.flat,kf,km,QC]
    rw[e]at k3
    exact k3
   simpa using this
end
end Gx

/- A region of open order by ordinary steps, as the interpreter walks it. -/
namespace Gx
open Go Go.RowKit Gd
set_option linter.unusedVariables false
set_option linter.unusedSimpArgs false
theorem Qdj{M:List (Nat×Ob)}:∀{B:List En} {e:En},e∈Jd3 M B→∃e0∈B,e=⟨e0.t,e0.cs,Re M e0.av⟩
 | [],e,h=>by cases h
 | e0::l,e,h=>by
  simp only[Jd3]at h
  cases hb:Qyx M (Qvq e0.av)with
  | true =>
   rw[hb]at h
   rcases QX.1 h with rfl | h
   ·grind
   ·obtain⟨e1,h1,h2⟩:=Qdj h
    grind
  | false =>
   rw[hb]at h
   obtain⟨e1,h1,h2⟩:=Qdj h
   grind
theorem Jqf{α:Type}(a b c d:List α):((a++b)++(c++d)).Perm ((a++c)++(b++d)):=by
 rw[List.append_assoc,List.append_assoc]
 refine List.Perm.append_left a ?_
 rw[←List.append_assoc,←List.append_assoc]
 exact List.perm_append_comm.append_right d
theorem Qwg{E:Nat→Bool}{id:Nat}:∀{l:List EC} {j:Nat} {c:Option Ob},(∀g∈l,Ko id g=false)→Yy E id l j c=c
 | [],j,c,_=>rfl
 | g::l,j,c,h=>by
  simp only[Yy]
  rw[Q8c (h g (.head _))]
  rw[show(bif E j then c else c)=c by cases E j<;>rfl]
  exact Qwg fun g' hg=>h g' (.tail _ hg)
theorem Qdk{l m:List Nat}{Zs:List (Nat×Ob)}{acc:List EC}{E:Nat→Bool}:Bi (l++m) Zs acc E=Bi l Zs acc E++Bi m Zs acc E:=JH
theorem Qy7{l m:List (Nat×Ob)}:Vn (l++m)=Vn l++Vn m:=QN
section
variable {P:Program} {Y:TX} {X:Cx} {K:List Con} {n:Nat} {l0:List Oper} {ds:List Nat} {R:Type} {r:R} {β:Nat→Nat} {ρ:Nat→Value} {a:Act} {w:World}
theorem Jon{B:List En}{M Z:List (Nat×Ob)}(h:Rel X β ρ ⟨B,M++Z⟩ a w):Rel X β ρ ⟨Jd3 M B++B,M++Z⟩ a w:=by
 refine Rel.ofSb h rfl fun e he=>?_
 rcases QZ.1 he with he | he
 ·obtain⟨e0,h0,rfl⟩:=Qdj he
  obtain⟨h1,h2⟩:=h.en h0
  refine⟨fun hc=>?_,h2⟩
  obtain⟨cs,q1,q2⟩:=h1 hc
  exact⟨cs,by rw[q1,Q27],Qan (fun id o ho=>h.mm id o (Q8 ho)) q2⟩
 ·exact h.en he
theorem Q8f(hT:Q9 P Y.T)(hmix:P.follows .mixedOrders=true)(hK:KsX P Y X K)(hX:X.n=n)(hr:X.res=[])(hp:X.pin=none){S:XS}(h:Rel X β ρ S.flat a w){p:Nat}{zs zf:List Nat}{ht:HT}
  (hb:Jay l0 p ds=true) (hfx:(ds.all fun d=>Qcj d S.fix)=true) {k:Hn→XS→Option R}
  (hs:dcI Y K n l0 p ds (Jt S.mem zs).2 (Jt S.fixM zf).2 (Jt S.mem zs).1 (Jt S.fixM zf).1 ht S (Qno S.env (ds++Dy ht)++S.fix) k=some r) {id:Nat} {Q:Exit→Act→World→Prop}
  (H:∀(β':Nat→Nat) (ρ':Nat→Value) (S':XS) (a':Act) (w':World) (h':Hn),k h' S'=some r→Vb S S' β β' ρ ρ'→Rel X β' ρ' S'.flat a' w'→wpList P ⟨l0⟩ Q (l0.drop p) a' w'):(Code.region id ⟨l0⟩ true).wp P Q a w:=by
 have hm:=K1 zs S.mem
 have hf:=K1 zf S.fixM
 revert hs hm hf
 generalize (Jt S.mem zs).2=Z1
 generalize (Jt S.mem zs).1=M1
 generalize (Jt S.fixM zf).2=Z2
 generalize (Jt S.fixM zf).1=F1
 intro hs hm hf
 unfold dcI dcR at hs
 have hpm:S.flat.mem.Perm ((Z1++Z2)++(M1++F1)):=(hm.symm.append hf.symm).trans (Jqf Z1 M1 Z2 F1)
 have hBm:∀e∈Qno S.env (ds++Dy ht)++S.fix,e∈S.flat.env∧∀d∈ds,e.t≠d∧∀c∈e.cs,c.1≠d:=fun e he=>by
  rcases QZ.1 he with he | he
  ·obtain⟨q1,q2⟩:=Qwa he
   exact⟨List.mem_append_left _ q1,fun d hd=>(q2 d (List.mem_append_left _ hd)).2⟩
  ·exact⟨List.mem_append_right _ he,fun d hd=>Qde (JX.1 hfx d hd) e he⟩
 have h1:Rel X β ρ ⟨Qno S.env (ds++Dy ht)++S.fix,(M1++F1)++(Z1++Z2)⟩ a w:=Rel.permM (Rel.less h fun e he=>(hBm e he).1) (hpm.trans JI)
 have h2:=Rel.permM (Jon h1) (JI (l₁:=M1++F1) (l₂:=Z1++Z2))
 refine Q8e hT hmix hK hX hr hp (prB:=Rd (Qno S.env (ds++Dy ht)++S.fix)++Jp ((Z1++Z2)++(M1++F1))++S.prot) (Mb:=M1++F1) h2 (fun e he d hd _=>?_) (fun e he i hi=>?_) (fun i hi=>List.mem_append_left _ (List.mem_append_right _ hi)) hb hs
  (fun hh hs0 acc hk=>?_) (fun i hi=>List.mem_append_left _ (List.mem_append_left _ hi)) fun β' ρ' a' w' hh hs0 acc hk hno hbT hag hR=>?_
 ·rcases QZ.1 he with he | he
  ·obtain⟨e0,q1,rfl⟩:=Qdj he
   grind
  grind
 ·refine List.mem_append_left _ (List.mem_append_left _ ?_)
  rcases QZ.1 he with he | he
  ·obtain⟨e0,q1,rfl⟩:=Qdj he
   exact Q24 q1 (Qju hi)
  ·exact Q24 he hi
 ·have:=(bvT hk).1
  grind
 ·obtain⟨hck,hk⟩:=bvT hk
  simp only[QJ]at hck
  obtain⟨hck,hkf⟩:=hck
  have hnd:(Vn (Z1++Z2)).Nodup:=by
   unfold Jod at hck
   simp only[QJ]at hck
   grind [List.nodup_append,Sw]
  refine H β' ρ' _ a' w' hh hk ⟨rfl,rfl,rfl,fun i hi=>hag i (List.mem_append_right _ hi)⟩ ?_
  have e2:Bi (Vn Z2) (Z1++Z2) acc Hf=Z2:=by
   unfold Bi Vn
   rw[List.filterMap_map]
   refine(Y7 (f:=some) fun q hq=>?_).trans VV
   have hq2:q.1∈Vn Z2:=QK.2 ⟨q,hq,rfl⟩
   have hl:=Qhq hnd q (List.mem_append_right _ hq)
   simp only[Function.comp,hl]
   rw[Qwg fun g hg=>hno q.1 (fun hc hm2 hw=>Iy (JX.1 hkf hc hm2) hw hq2) g hg]
   rfl
  have e1:Bi (Vn (Z1++Z2)++Xu hs0) (Z1++Z2) acc Hf=(Bi (Vn Z1) (Z1++Z2) acc Hf++Z2)++Bi (Xu hs0) (Z1++Z2) acc Hf:=by
   rw[Qdk,Qy7,Qdk,e2]
  have e3:Bi (Vn Z1++Xu hs0) (Z1++Z2) acc Hf=Bi (Vn Z1) (Z1++Z2) acc Hf++Bi (Xu hs0) (Z1++Z2) acc Hf:=Qdk
  rw[e1]at hR
  have hperm:(((Bi (Vn Z1) (Z1++Z2) acc Hf++Z2)++Bi (Xu hs0) (Z1++Z2) acc Hf)++(M1++F1)).Perm ((Bi (Vn Z1++Xu hs0) (Z1++Z2) acc Hf++M1)++S.fixM):=by
   rw[e3]
   have p1:((Bi (Vn Z1) (Z1++Z2) acc Hf++Z2)++Bi (Xu hs0) (Z1++Z2) acc Hf).Perm ((Bi (Vn Z1) (Z1++Z2) acc Hf++Bi (Xu hs0) (Z1++Z2) acc Hf)++Z2):=by
    rw[List.append_assoc,List.append_assoc]
    exact List.Perm.append_left _ JI
   exact((p1.append_right _).trans (Jqf _ _ _ _)).trans (List.Perm.append_left _ hf)
  refine Rel.less (Rel.permM hR hperm) fun e he=>?_
  rcases QZ.1 he with he | he
  ·rcases QZ.1 he with he | he
   ·grind
   grind
  ·exact List.mem_append_right _ (List.mem_append_right _ (List.mem_append_right _ he))
end
end Gx

/- Ranges over maps: what is set aside in a round; the entries that are left. -/
namespace Gx
open Go Go.RowKit Gd
set_option linter.unusedVariables false
set_option linter.unusedSimpArgs false
section
variable {P:Program} {Y:TX} {X:Cx} {β β':Nat→Nat} {ρ ρ':Nat→Value} {S S':St} {a a':Act} {w w':World} {Dx:List DF} {F:List TL}
def Qf2(X:Cx)(β:Nat→Nat)(ρ:Nat→Value)(S:St)(Dx:List DF)(F:List TL)(a:Act)(w:World):Prop :=
 Sb (fun _=>0) X [] (Dx++S.env.map (enD β ρ a)) [] (Qk β ρ S.mem++F) a w
abbrev okF(X:Cx)(β:Nat→Nat)(ρ:Nat→Value)(mem:List (Nat×Ob))(F:List TL)(w:World):Ok:=Jk X.ok X.w.heap.size (fun _=>0) [] (Qk β ρ mem++F) w
theorem Qf2.en(h:Qf2 X β ρ S Dx F a w){e:En}(he:e∈S.env):(enD β ρ a e).p (okF X β ρ S.mem F w) w:=Yk.1 h.dat _ (List.mem_append_right _ (QK.2 ⟨e,he,rfl⟩))
theorem Qf2.act(h:Qf2 X β ρ S Dx F a w){env':List En}(hs:a'.tmps.size=a.tmps.size)(hd:a'.defers=a.defers)(hr:X.res=[])
  (he:∀e∈env',(enD β ρ a' e).p (okF X β ρ S.mem F w) w):Qf2 X β ρ ⟨env',S.mem⟩ Dx F a' w :=
 {sz:=hs.trans h.sz,df:=hd.trans h.df,fr:=by rw[hr]; simp,pn:=h.pn,tm:=by simp,bel:=h.bel,
  dat:=Yk.2 fun d hd=>by
   rcases QZ.1 hd with hd | hd
   ·exact Yk.1 h.dat _ (List.mem_append_left _ hd)
   grind,
  obj:=h.obj,own:=h.own,dHH:=h.dHH,dHO:=h.dHO,dOO:=h.dOO }
theorem Qf2.en_put(h:Qf2 X β ρ S Dx F a w){d:Nat}(v:Value){e:En}(he:e∈Vc S.env d):(enD β ρ (a.put (some d) v) e).p (okF X β ρ S.mem F w) w:=by
 obtain⟨h1,h2,h3⟩:=Nq he
 have hcc:Jx (a.put (some d) v) e.cs↔Jx a e.cs:=⟨fun hc c hm=>by rw[←Vd (h3 c hm) v]; exact hc c hm,fun hc c hm=>by rw[Vd (h3 c hm) v]; exact hc c hm⟩
 refine⟨fun hc=>?_,?_⟩
 ·obtain⟨cs,h4,h5⟩:=(h.en h1).1 (hcc.1 hc)
  grind [Qi6]
 ·rw[hcc,Qi6 h2]; exact(h.en h1).2
theorem Qf2.del(h:Qf2 X β ρ S Dx F a w)(hr:X.res=[]){d:Nat}(v:Value):Qf2 X β ρ ⟨Vc S.env d,S.mem⟩ Dx F (a.put (some d) v) w :=
 h.act (by simp[Act.put]) rfl hr fun e he=>h.en_put v he
theorem Qf2.put0(h:Qf2 X β ρ S Dx F a w)(hr:X.res=[]){d:Nat}(hd:okD X d=true){x:AV}{c:List Value}(hx:cr β ρ (okF X β ρ S.mem F w) w false x c):Qf2 X β ρ ⟨⟨d,[],x⟩::Vc S.env d,S.mem⟩ Dx F (a.put (some d) (x.val c)) w:=by
 refine h.act (by simp[Act.put]) rfl hr fun e he=>?_
 rcases QX.1 he with rfl | he
 ·refine⟨fun _=>⟨c,?_,hx⟩,.inl (Qf _)⟩
  rw[Pn (Qfa hd)]
  simp[Act.put,h.sz,Qkz hd]
 ·exact h.en_put _ he
theorem Qf2.less(h:Qf2 X β ρ S Dx F a w)(hr:X.res=[]){env':List En}(he:∀e∈env',e∈S.env):Qf2 X β ρ ⟨env',S.mem⟩ Dx F a w :=
 h.act rfl rfl hr fun e hm=>h.en (he e hm)
end
end Gx

/- Ranges over maps: the rounds. -/
namespace Gx
open Go Go.RowKit Gd
set_option linter.unusedVariables false
set_option linter.unusedSimpArgs false
section
section
variable {P:Program} {Y:TX} {X:Cx} {S:XS} {β β':Nat→Nat} {ρ ρ':Nat→Value} {a a':Act} {w w':World} {n N:Nat} {K:List Con}
variable {Q:Exit→Act→World→Prop} {R:Type} {r:R}
def Ex.exit:Ex→Exit
 | .n=>.normal
 | .x i=>.exit i
 | .r=>.ret
theorem Ex.beq_ok{a b:Ex}(h:Ex.beq a b=true):a=b:=by
 cases a<;>cases b<;>simp[Ex.beq]at h<;>first | rfl | (rw[h])
def COk(Q:Exit→Act→World→Prop)(X:Cx)(S0:XS)(β:Nat→Nat)(ρ:Nat→Value){R:Type}(k:Ex→XS→Option R)(r:R):Prop :=
 ∀(e:Ex) (β':Nat→Nat) (ρ':Nat→Value) (S':XS) (a':Act) (w':World),k e S'=some r→Vb S0 S' β β' ρ ρ'→Rel X β' ρ' S'.flat a' w'→Q e.exit a' w'
theorem COk.after{k:Ex→XS→Option R}(h:COk Q X S β ρ k r){S1:XS}{β1:Nat→Nat}{ρ1:Nat→Value}(hk:Vb S S1 β β1 ρ ρ1):COk Q X S1 β1 ρ1 k r :=
 fun e β' ρ' S' a' w' h1 h2 h3=>h e β' ρ' S' a' w' h1 (hk.trans h2) h3
theorem Qlu{k:Ex→XS→Option R}(ks ms:List Nat):∀{l:Exs} {e:Ex} {S':XS} {x:Q7w l},inj l e S'=some x→Q7x S ks ms k l x=some r →
  S'.fix=(S.ent ks ms).fix∧S'.fixM=(S.ent ks ms).fixM∧S'.prot=(S.ent ks ms).prot→Rel X β ρ S'.flat a w →
  ∃β' ρ' S1,k e (S.out ks ms S1)=some r∧agP S.prot β β' ρ ρ'∧Rel X β' ρ' (S.out ks ms S1).flat a w
 | [q],e,S',x,hi,ho,hk,h=>by
  simp only[inj]at hi
  obtain⟨hb,hd⟩:=bvT hi
  have:=Ex.beq_ok hb
  subst this
  obtain⟨β',ρ',h1,h2⟩:=Ri (S0:=S.ent ks ms) h hk hd
  rw[←Qdh]at h2
  exact⟨β',ρ',enc q.2 x,ho,h1,h2⟩
 | q::q2::l,e,S',x,hi,ho,hk,h=>by
  simp only[inj]at hi
  cases hb:Ex.beq q.1 e with
  | true =>
   rw[hb]at hi
   have:=Ex.beq_ok hb
   subst this
   simp only[cond_true]at hi
   split at hi
   ·rename_i y hd
    injection hi with hi; subst hi
    obtain⟨β',ρ',h1,h2⟩:=Ri (S0:=S.ent ks ms) h hk hd
    rw[←Qdh]at h2
    exact⟨β',ρ',enc q.2 y,ho,h1,h2⟩
   ·cases hi
  | false =>
   rw[hb]at hi
   simp only[cond_false]at hi
   split at hi
   ·rename_i y hd
    injection hi with hi; subst hi
    exact Qlu ks ms hd ho hk h
   ·cases hi
end
variable {P:Program} {Y:TX} {X:Cx} {n N:Nat} {K:List Con} {β:Nat→Nat} {ρ:Nat→Value} {a:Act} {w:World} {Q:Exit→Act→World→Prop} {R:Type} {r:R} {k:Ex→XS→Option R} {S1:XS}
theorem isVal{t:Ty}{ok:Ok}{x:t.De}{v:Value}(h:isV (rt t) ok w x v):∃c,v=(AV.d t x).val c∧cr β ρ ok w false (.d t x) c:=by
 obtain⟨cs,h1,h2⟩:=Si h
 exact⟨cs,h2,h1⟩
end
end Gx

/- Control. -/
namespace Gx
open Go Go.RowKit Gd
set_option linter.unusedVariables false
set_option linter.unusedSimpArgs false
section
variable {P:Program} {Y:TX} {X:Cx} {S:XS} {β β':Nat→Nat} {ρ ρ':Nat→Value} {a a':Act} {w w':World} {n N:Nat} {K:List Con}
variable {Q:Exit→Act→World→Prop} {R:Type} {r:R}
theorem Xn(hT:Q9 P Y.T)(hmix:P.follows .mixedOrders=true):∀{X:Cx} (hK:KsX P Y X K) (hX:X.n=n) (hr:X.res=[]) (hpin:X.pin=none) {R:Type} {r:R} (an:An) {c:Code} {S:XS} {β:Nat→Nat} {ρ:Nat→Value} {a:Act} {w:World} {k:Ex→XS→Option R} {Q:Exit→Act→World→Prop},
  Rel X β ρ S.flat a w→Xd Y K n N an c S k=some r→COk Q X S β ρ k r→c.wp P Q a w
 | X,hK,hX,hr,hpin,R,r,.nil,c,S,β,ρ,a,w,k,Q,h,hs,H=>by
  cases c<;>simp only[Xd]at hs<;>first | (cases hs; done) | skip
  ·exact wp_skip (H .n β ρ S a w hs (Vb.refl _ _ _) h)
  ·rename_i id; exact wp_exit (H (.x id) β ρ S a w hs (Vb.refl _ _ _) h)
  ·exact wp_label (H .n β ρ S a w hs (Vb.refl _ _ _) h)
  ·exact wp_ret (H .r β ρ S a w hs (Vb.refl _ _ _) h)
 | X,hK,hX,hr,hpin,R,r,.reg hn,c,S,β,ρ,a,w,k,Q,h,hs,H=>by
  cases c with
  | region id ops draw =>
   obtain⟨ops⟩:=ops
   cases draw with
   | true=>simp[Xd]at hs
   | false =>
    simp only[Xd]at hs
    refine wp_region_list ?_
    have:=Vu hT hK hX hr (Q:=Q) hn (l:=ops) (rest:=[]) h hs fun β' ρ' S' a' w' h1 h2 h3=>H .n β' ρ' S' a' w' h1 h2 h3
    grind
  | _=>simp[Xd]at hs
 | X,hK,hX,hr,hpin,R,r,.dr m g1 g2,c,S,β,ρ,a,w,k,Q,h,hs,H=>by
  cases c with
  | region id ops draw =>
   obtain⟨ops⟩:=ops
   cases draw with
   | false=>simp[Xd]at hs
   | true =>
    simp only[Xd]at hs
    obtain⟨hb,hs⟩:=bvT hs
    have hm:P.follows .mixedOrders=true:=hmix
    unfold Jir at hb
    have tail:∀(β':Nat→Nat) (ρ':Nat→Value) (S':XS) (a':Act),Y4 Y K n ops g2 (ops.drop m) S' (k .n)=some r→Vb S S' β β' ρ ρ'→Rel X β' ρ' S'.flat a' { w with drawn:=w.drawn+1 }→wpList P ⟨ops⟩ Q (ops.drop m) a' { w with drawn:=w.drawn+1 }:=by
     intro β' ρ' S' a' h1 h2 h3
     have:=Vu hT hK hX hr (Q:=Q) g2 (l:=ops.drop m) (rest:=[]) h3 h1 fun β2 ρ2 S2 a2 w2 q1 q2 q3=>H .n β2 ρ2 S2 a2 w2 q1 (h2.trans q2) q3
     grind
    cases hlt:Nat.blt m ops.length with
    | true =>
     rw[hlt]at hb
     refine wp_region_still_tail m hm hb ?_
     have:=Qap hT hX hr (w:={ w with drawn:=w.drawn+1 }) (Qs:=fun a'=>wpList P ⟨ops⟩ Q (ops.drop m) a' { w with drawn:=w.drawn+1 }) g1 (l:=ops.take m) (rest:=[]) h.drew hs fun β' ρ' S' a' h1 h2 h3=>tail β' ρ' S' a' h1 h2 h3
     grind
    | false =>
     rw[hlt]at hb
     simp only[cond_false,QJ]at hb
     have hm2:=Nat.eq_of_beq_eq_true hb.1
     refine wp_region_still_lit hm hb.2 ?_
     have:=Qap hT hX hr (w:={ w with drawn:=w.drawn+1 }) (Qs:=fun a'=>wpList P ⟨ops⟩ Q (ops.drop m) a' { w with drawn:=w.drawn+1 }) g1 (l:=ops.take m) (rest:=[]) h.drew hs fun β' ρ' S' a' h1 h2 h3=>tail β' ρ' S' a' h1 h2 h3
     rw[hm2]at this
     simp only[List.take_length,QC,JE]at this
     exact this
  | _=>simp[Xd]at hs
 | X,hK,hX,hr,hpin,R,r,.dc p ds zs zf ht,c,S,β,ρ,a,w,k,Q,h,hs,H=>by
  cases c with
  | region id ops draw =>
   obtain⟨ops⟩:=ops
   cases draw with
   | false=>simp[Xd]at hs
   | true =>
    simp only[Xd]at hs
    obtain⟨hb,hs⟩:=bvT hs
    simp only[QJ]at hb
    refine Q8f hT hmix hK hX hr hpin h hb.1 hb.2 hs fun β' ρ' S' a' w' h' h1 h2 h3=>?_
    have:=Vu hT hK hX hr (Q:=Q) h' (l:=ops.drop p) (rest:=[]) h3 h1 fun β2 ρ2 S2 a2 w2 q1 q2 q3=>H .n β2 ρ2 S2 a2 w2 q1 (h2.trans q2) q3
    grind
  | _=>simp[Xd]at hs
 | X,hK,hX,hr,hpin,R,r,.ch t i x y,c,S,β,ρ,a,w,k,Q,h,hs,H=>by
  simp only[Xd]at hs
  cases hb:Jis S t i with
  | true=>rw[hb]at hs; exact Xn hT hmix hK hX hr hpin x h hs H
  | false=>rw[hb]at hs; exact Xn hT hmix hK hX hr hpin y h hs H
 | X,hK,hX,hr,hpin,R,r,.cn t x y,c,S,β,ρ,a,w,k,Q,h,hs,H=>by
  simp only[Xd]at hs
  cases hb:Jit S t with
  | true=>rw[hb]at hs; exact Xn hT hmix hK hX hr hpin x h hs H
  | false=>rw[hb]at hs; exact Xn hT hmix hK hX hr hpin y h hs H
 | X,hK,hX,hr,hpin,R,r,.gh g x,c,S,β,ρ,a,w,k,Q,h,hs,H=>by
  simp only[Xd]at hs
  obtain⟨S1,β1,ρ1,q1,q2,q3⟩:=Qao g h hs
  exact Xn hT hmix hK hX hr hpin x q3 q1 (H.after q2)
 | X,hK,hX,hr,hpin,R,r,.two x y,c,S,β,ρ,a,w,k,Q,h,hs,H=>by
  cases c<;>simp only[Xd]at hs<;>first | (cases hs; done) | skip
  ·rename_i c1 c2
   refine wp_seq (Xn hT hmix hK hX hr hpin x h hs fun e β' ρ' S' a' w' h1 h2 h3=>?_)
   cases e with
   | n=>exact Xn hT hmix hK hX hr hpin y h3 h1 (H.after h2)
   | x i=>exact H (.x i) β' ρ' S' a' w' h1 h2 h3
   | r=>exact H .r β' ρ' S' a' w' h1 h2 h3
  ·rename_i co c1 c2
   split at hs
   ·rename_i v hv
    obtain⟨cs,h1,h2⟩:=h.ev (Qf a) hv
    have h2':cs=_:=h2
    subst h2'
    have h1':a.eval co=.bool v:=h1
    refine wp_cond_split h1' (fun hv=>?_) (fun hv=>?_)
    ·rw[if_pos hv]at hs
     exact Xn hT hmix hK hX hr hpin x h hs H
    ·rw[if_neg (by rw[hv]; simp)]at hs
     exact Xn hT hmix hK hX hr hpin y h hs H
   ·cases hs
 | X,hK,hX,hr,hpin,R,r,.un x,c,S,β,ρ,a,w,k,Q,h,hs,H=>by
  cases c<;>simp only[Xd]at hs<;>first | (cases hs; done) | skip
  ·rename_i id c1
   refine wp_block (Xn hT hmix hK hX hr hpin x h hs fun e β' ρ' S' a' w' h1 h2 h3=>?_)
   cases e with
   | n=>exact H .n β' ρ' S' a' w' h1 h2 h3
   | x i =>
    simp only at h1
    show if i=id then Q .normal a' w' else Q (.exit i) a' w'
    cases hb:Nat.beq i id with
    | true =>
     rw[hb]at h1
     rw[if_pos (Nat.eq_of_beq_eq_true hb)]
     exact H .n β' ρ' S' a' w' h1 h2 h3
    | false =>
     rw[hb]at h1
     rw[if_neg (fun e=>by rw[e,Nat.beq_refl]at hb; cases hb)]
     exact H (.x i) β' ρ' S' a' w' h1 h2 h3
   | r=>exact H .r β' ρ' S' a' w' h1 h2 h3
  ·refine wp_scope_straight (Xn hT hmix hK hX hr hpin x h hs fun e β' ρ' S' a' w' h1 h2 h3=>?_)
   cases e with
   | n=>exact H .n β' ρ' S' a' w' h1 h2 h3
   | x i=>exact H (.x i) β' ρ' S' a' w' h1 h2 h3
   | r=>exact H .r β' ρ' S' a' w' h1 h2 h3
 | X,hK,hX,hr,hpin,R,r,.jn ks ms exs x,c,S,β,ρ,a,w,k,Q,h,hs,H=>by
  simp only[Xd]at hs
  obtain⟨z,hz,ho⟩:=Yt hs
  refine Xn hT hmix hK hX hr hpin x (h.ent ks ms) hz fun e β' ρ' S' a' w' h1 h2 h3=>?_
  obtain⟨β2,ρ2,S1,h4,h5,h6⟩:=Qlu ks ms h1 ho ⟨h2.fix,h2.fixM,h2.prot⟩ h3
  refine H e β2 ρ2 _ a' w' h4 ⟨rfl,rfl,rfl,?_⟩ h6
  exact agP.trans h2.ag h5
 | X,hK,hX,hr,hpin,R,r,.lp ks ms Γ exs x,c,S,β,ρ,a,w,k,Q,h,hs,H=>by
  cases c<;>simp only[Xd]at hs<;>first | (cases hs; done) | skip
  rename_i c1
  split at hs
  ·rename_i s0 hs0
   obtain⟨z,hz,ho⟩:=Yt hs
   obtain⟨β1,ρ1,h1,h2⟩:=Ri (S0:=S.ent ks ms) (h.ent ks ms) ⟨rfl,rfl,rfl⟩ hs0
   refine Qi0 (fun m a w=>∃s β' ρ',agP S.prot β β' ρ ρ'∧Rel X β' ρ' ((S.ent ks ms).re (enc Γ s)).flat a w∧Qe _ m s=some z) N ⟨s0,β1,ρ1,h1,h2,hz⟩ ?_
   rintro m a1 w1 ⟨s,β',ρ',h3,h4,h5⟩
   cases m with
   | zero=>simp[Qe]at h5
   | succ m =>
    simp only[Qe]at h5
    obtain⟨q,hq,h5⟩:=Yt h5
    refine Xn hT hmix hK hX hr hpin x h4 hq fun e β2 ρ2 S' a' w' h6 h7 h8=>?_
    cases e with
    | n =>
     simp only at h6
     split at h6
     ·rename_i s' hd
      injection h6 with h6; subst h6
      obtain⟨β3,ρ3,h9,h10⟩:=Ri (S0:=S.ent ks ms) h8 ⟨h7.fix,h7.fixM,h7.prot⟩ hd
      exact⟨m,Nat.lt_succ_self m,s',β3,ρ3,(h3.trans h7.ag).trans h9,h10,h5⟩
     ·cases h6
    | x i =>
     simp only at h6
     split at h6
     ·rename_i s' hd
      injection h6 with h6; subst h6
      injection h5 with h5; subst h5
      obtain⟨β3,ρ3,S1,h9,h10,h11⟩:=Qlu ks ms hd ho ⟨h7.fix,h7.fixM,h7.prot⟩ h8
      exact H (.x i) β3 ρ3 _ a' w' h9 ⟨rfl,rfl,rfl,(h3.trans h7.ag).trans h10⟩ h11
     ·cases h6
    | r =>
     simp only at h6
     split at h6
     ·rename_i s' hd
      injection h6 with h6; subst h6
      injection h5 with h5; subst h5
      obtain⟨β3,ρ3,S1,h9,h10,h11⟩:=Qlu ks ms hd ho ⟨h7.fix,h7.fixM,h7.prot⟩ h8
      exact H .r β3 ρ3 _ a' w' h9 ⟨rfl,rfl,rfl,(h3.trans h7.ag).trans h10⟩ h11
     ·cases h6
  ·cases hs
theorem Q3d(p:Addr):(asAddr (.pointer (some p)):Sem Addr)=pure p:=rfl
theorem Qy8(hT:Q9 P Y.T)(h:Rel X β ρ S.flat a w):∀{rs:List ResultVar} {i:Nat} {es:List En} (pre:List Value),pre.length=i→Q73 Y S rs i=some es →
  ∃vs:List Value,vs.length=rs.length∧es.length=rs.length∧Sem.run P (rs.mapM fun r=>match r with | .tmp t=>(pure (a.tmps.getD t undef):Sem Value) | .cell ad t=>do loadVar t (←asAddr (a.tmps.getD ad undef))) w=.ok vs w ∧
   ∀e∈es,(enD β ρ ⟨(pre++vs).toArray,[]⟩ e).p (okR X β ρ S.flat.mem w) w
 | [],i,es,pre,_,he=>by simp[Q73]at he; subst he; exact⟨[],rfl,rfl,rfl,by simp⟩
 | .tmp t::rs,i,es,pre,hi,he=>by
  simp only[Q73]at he
  split at he
  ·rename_i v r hv hr
   obtain⟨hbi,he⟩:=bvT he
   simp at he; subst he
   obtain⟨cs,h1,h2⟩:=h.ev (Qf a) hv
   obtain⟨vs,h3,h4,h5,h6⟩:=Qy8 hT h (rs:=rs) (i:=i+1) (pre++[a.tmps.getD t undef]) (by simp[hi]) hr
   refine⟨a.tmps.getD t undef::vs,by simp[h3],by simp[h4],?_,fun e hm=>?_⟩
   ·rw[VJ]
    simp_all
   ·exact resCons hi hbi (h1▸rfl) h2 h6 e hm
  ·cases he
 | .cell ad t::rs,i,es,pre,hi,he=>by
  simp only[Q73]at he
  split at he
  ·rename_i v r hv hr
   obtain⟨hbi,he⟩:=bvT he
   simp at he; subst he
   obtain⟨cs,h1,h2⟩:=Qjf (P:=P) (o:=⟨none,.load t (.tmp ad),0, "",#[],none⟩) hT h.toW (Qf a) hv
   obtain⟨vs,h3,h4,h5,h6⟩:=Qy8 hT h (rs:=rs) (i:=i+1) (pre++[v.val cs]) (by simp[hi]) hr
   have hp:∃p,a.tmps.getD ad undef=.pointer (some p):=by
    simp only[Qjd]at hv
    split at hv
    ·rename_i id path he' hx
     obtain⟨cs1,q1,q2⟩:=h.ev (Qf a) hx
     have q2':cs1=_:=q2
     subst q2'
     exact⟨_,q1⟩
    ·rename_i t' y he' hx
     obtain⟨cs1,q1,v0,q2,b,o,_,q3,_⟩:=h.ev (Qf a) hx
     subst q2; subst q3
     exact⟨_,q1⟩
    ·cases hv
   obtain⟨p,hp⟩:=hp
   have hl:(loadVar t p).run P w=.ok (v.val cs) w:=by
    have h1':=h1
    unfold execOp at h1'
    have hp':a.eval (.tmp ad)=.pointer (some p):=hp
    simp only[hp',Instr.loadAt,Instr.sureAddr,Sem.run_bind,Sem.run_pure,Result.andThen_ok]at h1'
    cases hr:(loadVar t p).run P w with
    | ok v1 w1 =>
     rw[hr]at h1'
     simp_all
    | _=>rw[hr]at h1'; simp_all
   refine⟨v.val cs::vs,by simp[h3],by simp[h4],?_,fun e hm=>?_⟩
   ·rw[VJ]
    simp_all [Q3d,Sem.run_bind,Result.andThen_ok]
   ·exact resCons hi hbi rfl h2 h6 e hm
  ·cases he
where
 resCons {i:Nat} {pre vs:List Value} {v0:Value} {v:AV} {cs:List Value} {r:List En} (hi:pre.length=i) (hbi:Nat.blt i 100000=true) (hv:v0=v.val cs) (h2:cr β ρ (okR X β ρ S.flat.mem w) w false v cs)
   (h6:∀e∈r,(enD β ρ ⟨(pre++[v0]++vs).toArray,[]⟩ e).p (okR X β ρ S.flat.mem w) w):∀e∈(⟨i,[],v⟩::r:List En),(enD β ρ ⟨(pre++v0::vs).toArray,[]⟩ e).p (okR X β ρ S.flat.mem w) w:=by
  intro e hm
  have hl:pre++[v0]++vs=pre++(v0::vs):=by simp
  rw[hl]at h6
  rcases QX.1 hm with rfl | hm
  ·refine⟨fun _=>⟨cs,?_,h2⟩,.inl (Qf _)⟩
   rw[Pn hbi]
   grind
  ·exact h6 e hm
theorem Qlv:∀{l:List (Nat×Sk)} {i:Nat} {vs:List DV},Nw l i=true→∀(j:Nat) e,(Ly l vs).1[j]?=some e→e.t=i+j∧e.cs=[]
 | [],i,vs,_,j,e,h=>by simp[Ly]at h
 | (t,s)::l,i,vs,hk,j,e,h=>by
  simp only[Nw,QJ]at hk
  simp only[Ly]at h
  cases j with
  | zero =>
   simp at h; subst h
   simp_all
  | succ j =>
   obtain⟨h1,h2⟩:=Qlv hk.2 j e (by simpa using h)
   grind
theorem N3:∀{l:List (Nat×Sk)} {vs:List DV},(Ly l vs).1.length=l.length
 | [],vs=>rfl
 | (t,s)::l,vs=>by simp only[Ly,List.length_cons,N3]
theorem Q3e{gl:List (Nat×Σ t:Ty,t.De)}{ok ok':Ok}{w:World}{β:Nat→Nat}{ρ:Nat→Value}{a:Act}(h:Uq gl ok w)(hk:∀b o,ok b o→ok' b o):∀e∈Qjn gl,(enD β ρ a e).p ok' w:=by
 intro e he
 obtain⟨q,hq,rfl⟩:=QK.1 he
 refine⟨fun _=>⟨[.pointer (some ⟨q.1,0,none⟩)],Q7q a q.1,_,rfl,(h q hq).1.weak hk⟩,.inl (Qf a)⟩
theorem Bl{P:Program}{gl:List (Nat×Σ t:Ty,t.De)}{c:Con}(h:∀x,c.fn x=none):Qgv P gl c:=fun ok w L β ρ x y vs _ _ _ _ _ hy=>by rw[h]at hy; cases hy
def S00(Y:TX)(c:Con)(x:c.Γ.De):XS:=⟨(enc c.Γ x).env,Qjn Y.gl,wrM c.ro (enc c.Γ x).mem,rdM c.ro (enc c.Γ x).mem,c.Γ.mem.map Prod.fst⟩
theorem Jqg{ro:List Nat}:∀(M:List (Nat×Ob)),M.Perm (wrM ro M++rdM ro M)
 | []=>.nil
 | q::l=>by
  have ih:=Jqg (ro:=ro) l
  unfold wrM rdM at *
  cases hm:Yl ro q.1 with
  | true =>
   simp only[ZO,hm,Bool.not_true,JZ,if_false,if_true]
   exact(List.Perm.cons q ih).trans List.perm_middle.symm
  | false =>
   simp_all
def Jwa(Y:TX)(fn:Func)(c:Con):Ex→XS→Option (Qcl c.Δ):=fun e S=>match e with
 | .x _=>none
 | .n=>fin Y fn c.Δ S
 | .r=>fin Y fn c.Δ S
theorem Jbb{fn:Func}{c:Con}(hku:Nw c.Γ.env 0=true)(hks:Nat.blt c.Γ.env.length 100000=true){ok:Ok}{w:World}{L:List Nat}{β:Nat→Nat}{ρ:Nat→Value}{x:c.Γ.De}{vs:List Value}{a:Act}(hok:∀b o,ok b o→b<w.heap.size)(hG:Uq Y.gl ok w)(hL:Qnf (Qk β ρ (enc c.Γ x).mem) L ok w)
  (hargs:∀e∈(enc c.Γ x).env,∃cs,vs[e.t]?=some (e.av.val cs)∧cr β ρ ok w false e.av cs) (h0:Sb (fun _=>0) (cxL L fn.ntmps ok w) (Q1p vs 0) [] [] (Qk β ρ (enc c.Γ x).mem) a w):Rel (cxL L fn.ntmps ok w) β ρ (S00 Y c x).flat a w:=by
 have hp:=(Jqg (ro:=c.ro) (enc c.Γ x).mem).map fun q=>Q4 β ρ q.1 q.2
 have hk0:∀b o,ok b o→okR (cxL L fn.ntmps ok w) β ρ (wrM c.ro (enc c.Γ x).mem++rdM c.ro (enc c.Γ x).mem) w b o:=fun b o hbo=>⟨.inl (.inl hbo),hok b o hbo,by simp,fun t ht hc=>(hL.1 t (hp.mem_iff.2 ht)).2.2 b o (t.cb hc) hbo⟩
 have hR:Rel (cxL L fn.ntmps ok w) β ρ (XS.flat (S00 Y c x)) a w:=by
  have e:XS.flat (S00 Y c x)=⟨(enc c.Γ x).env++Qjn Y.gl,wrM c.ro (enc c.Γ x).mem++rdM c.ro (enc c.Γ x).mem⟩:=rfl
  rw[e]
  replace h0:=Sb.perm h0 hp
  refine Rel.ofSb h0 rfl fun e he=>?_
  rcases QZ.1 he with he | he
  case inr=>grind [Q3e]
  obtain⟨cs,h1,h2⟩:=hargs e he
  have hcs:e.cs=[]:=by
   grind [enc,Qls]
  refine⟨fun _=>⟨cs,?_,Gs h2 hk0⟩,.inl (by rw[hcs]; exact Qf a)⟩
  have hz:∀{us:List Value} {i j:Nat} {v:Value},us[j]?=some v→(i+j,Gd.AV.v v)∈Q1p us i:=by
   intro us
   induction us with
   | nil=>grind
   | cons u us ih =>
    intro i j v h
    cases j with
    | zero=>simp at h; subst h; exact .head _
    | succ j =>
     have:=ih (i:=i+1) (j:=j) (v:=v) (by simpa using h)
     rw[show i+(j+1)=i+1+j by omega]
     exact .tail _ this
  have hsm:Nat.blt e.t 100000=true:=by
   obtain⟨j,hj⟩:=List.getElem?_of_mem he
   have hk2:e.t=0+j:=by
    grind [enc,Qlv,toL]
   have hjl:j<c.Γ.env.length:=by
    have h4:=(List.getElem?_eq_some_iff.1 hj).1
    grind [enc,N3,toL]
   have:=QW hks
   rw[hk2]
   exact Nat.ble_eq_true_of_le (by omega)
  have:=h0.tm _ (hz (i:=0) h1)
  rw[Pn hsm]
  grind [Zc]
 exact hR
theorem Jbc{es:List En}{S:XS}:∀{l:List Shp} {y:Qcl l},Jiu es S l=some y→∃s x,Nw s.env 0=true∧es.length=s.env.length∧S.dec s=some x∧Qdc l y=enc s x
 | [s],y,h=>by
  simp only[Jiu]at h
  obtain⟨hb,h⟩:=bvT h
  simp only[QJ]at hb
  exact⟨s,y,hb.1,Nat.eq_of_beq_eq_true hb.2,h,rfl⟩
 | s::r::l,y,h=>by
  simp only[Jiu]at h
  split at h
  ·rename_i x hx
   injection h with h
   subst h
   obtain⟨hb,hx⟩:=bvT hx
   simp only[QJ]at hb
   exact⟨s,x,hb.1,Nat.eq_of_beq_eq_true hb.2,hx,rfl⟩
  ·split at h
   ·rename_i y0 hy
    injection h with h
    subst h
    obtain⟨s0,x0,h1,h2,h3,h4⟩:=Jbc hy
    exact⟨s0,x0,h1,h2,h3,h4⟩
   ·cases h
theorem Jbd(hT:Q9 P Y.T){fn:Func}{c:Con}{ok:Ok}{w:World}{L:List Nat}{β:Nat→Nat}{ρ:Nat→Value}{x:c.Γ.De}{y:Qcl c.Δ}{β':Nat→Nat}{ρ':Nat→Value}{S':XS}{a':Act}{w':World}
  (h2:Vb (S00 Y c x) S' β β' ρ ρ') (h3:Rel (cxL L fn.ntmps ok w) β' ρ' S'.flat a' w'):fin Y fn c.Δ S'=some y→bodyPost P fn (Qyf L w (Q2y c β ρ ok L w x y)) .ret a' w':=by
 intro hfin
 unfold fin at hfin
 split at hfin
 ·rename_i es hes
  obtain⟨hkb,hd⟩:=bvT hfin
  have hksm:=QW hkb
  obtain⟨s,x1,hku,hel,hd,henc⟩:=Jbc hd
  obtain⟨rv,r1,r2,r3,r4⟩:=Qy8 hT h3 [] rfl hes
  simp only[QV]at r4
  have hRes:Rel { cxL L fn.ntmps ok w with n:=rv.length } β' ρ' (XS.flat ⟨es,[],S'.mem,S'.fixM,S'.prot⟩) ⟨rv.toArray,[]⟩ w':=by
   have e:XS.flat ⟨es,[],S'.mem,S'.fixM,S'.prot⟩=⟨es,S'.flat.mem⟩:=by simp[XS.flat]
   rw[e]
   have hSb:Sb (fun _=>0) { cxL L fn.ntmps ok w with n:=rv.length } [] [] [] (Qk β' ρ' S'.flat.mem) ⟨rv.toArray,[]⟩ w' :=
    { sz:=by simp,df:=rfl,fr:=by simp,pn:=by simp,tm:=by simp,bel:=h3.bel,dat:=trivial,obj:=by simp,own:=h3.own,dHH:=by simp,dHO:=by simp,dOO:=h3.dOO }
   exact Rel.ofSb hSb rfl fun e he=>r4 e he
  obtain⟨β2,ρ2,h4,h5⟩:=XS.dec_ok hRes hd
  have hfm:S'.fixM=roM c x:=h2.fixM
  have hpr:S'.prot=c.Γ.mem.map Prod.fst:=h2.prot
  rw[hfm]at h5
  have hfacts:∀(j:Nat) e,(enc s x1).env[j]?=some e→∃cs,rv[j]?=some (e.av.val cs)∧cr β2 ρ2 (Jk (okL L ok) w.heap.size (fun _=>0) [] (Qk β2 ρ2 ((enc s x1).mem++roM c x)) w') w' false e.av cs:=by
   intro j e he
   have hk2:e.t=0+j∧e.cs=[]:=by
    grind [enc,Qlv,toL]
   have hen:=h5.en (List.mem_append_left _ (List.mem_of_getElem? he))
   obtain⟨cs,q1,q2⟩:=hen.1 (by rw[hk2.2]; exact Qf _)
   rw[hk2.1,QY]at q1
   have hjl:j<s.env.length:=by
    have h4:=(List.getElem?_eq_some_iff.1 he).1
    grind [enc,N3,toL]
   rw[Pn (Nat.ble_eq_true_of_le (by omega))]at q1
   grind
  have hlenE:(enc s x1).env.length=rv.length:=by
   grind [enc,N3,toL]
  have hres:(results fn a'.tmps).run P w'=.ok (if h:rv.toArray.size=1 then rv.toArray[0]else .tuple rv.toArray) w':=by
   unfold results
   rw[ZK]
   simp only[Sem.run_bind,Sem.run_map,bind_pure_comp]
   exact congrArg (fun z:Result (List Value)=>(z.andThen fun a w'=>Result.ok a.toArray w').andThen fun a w'=>Result.ok (if h:a.size=1 then a[0]else Value.tuple a) w') r3
  refine⟨h3.df,_,hres,_,rfl,?_,h3.bel⟩
  unfold Q2y
  rw[henc]
  refine⟨β2,ρ2,?_,?_,?_,?_⟩
  ·exact agP.trans h2.ag (by rw[←hpr]; exact h4)
  ·by_cases hl1:rv.length=1
   ·obtain⟨e0,he0⟩:=KL.1 (hlenE.trans hl1)
    obtain⟨cs,q1,q2⟩:=hfacts 0 e0 (by rw[he0]; rfl)
    have hra:Sq (enc s x1).env=e0.av:=by rw[he0]; rfl
    rw[hra]
    grind
   ·have hra:Sq (enc s x1).env=.tp (Qvs (enc s x1).env):=by
     unfold Sq
     grind
    rw[hra]
    refine⟨[.tuple rv.toArray],?_,rv,rfl,?_⟩
    ·rw[dif_neg (by simpa using hl1)]; rfl
    ·exact Q25 (i:=0) hfacts hlenE.symm
  ·exact fun t ht=>h5.own t ht
  ·exact h5.dOO
 ·cases hfin
theorem Joo(hT:Q9 P Y.T){f:FuncId}{fn:Func}(hf:P.funcs[f]?=some fn){c:Con}(hcf:c.f=f){code:Code}(hb:fn.body=some code)(hble:Nat.ble c.Γ.env.length fn.ntmps=true)(hku:Nw c.Γ.env 0=true)(hks:Nat.blt c.Γ.env.length 100000=true)
  (hway:∀(x:c.Γ.De) (y:Qcl c.Δ) (X:Cx) (β:Nat→Nat) (ρ:Nat→Value) (a:Act) (w:World) (Q:Exit→Act→World→Prop),c.fn x=some y→Uq Y.gl (okN X) X.w→X.n=fn.ntmps→X.res=[]→X.pin=none→Rel X β ρ (S00 Y c x).flat a w→COk Q X (S00 Y c x) β ρ (Jwa Y fn c) y→code.wp P Q a w):Qgv P Y.gl c:=by
 intro ok w L β ρ x y vs hok hG hlen hL hargs hy
 rw[hcf]
 refine Jdm (n:=fn.ntmps) (L:=L) (O:=Qk β ρ (enc c.Γ x).mem) (D:=[]) hok hf hb rfl (by rw[hlen]; exact hble) trivial hL fun a h0=>?_
 have hR:=Jbb (Y:=Y) (fn:=fn) hku hks hok hG hL hargs h0
 refine hway x y _ β ρ a w _ hy (hG.weak fun b o hbo=>⟨.inl hbo,fun hbl=>hL.2.2 b hbl |>.elim fun t ht=>(hL.1 t ht.1).2.2 b o ht.2 hbo,hok b o hbo⟩) rfl rfl rfl hR fun e β' ρ' S' a' w' h1 h2 h3=>?_
 have key:=Jbd (y:=y) hT h2 h3
 cases e with
 | n=>exact key h1
 | x i=>cases h1
 | r=>exact key h1
theorem Jop(hT:Q9 P Y.T)(hmix:P.follows .mixedOrders=true)(hK:Q26 P Y.gl K){f:FuncId}{fn:Func}(hf:P.funcs[f]?=some fn){an:An}{c:Con}(hcf:c.f=f)(hrun:∀x,c.fn x=Jiv Y K N fn an c.ro c.Γ c.Δ x):Qgv P Y.gl c:=by
 cases hb:fn.body with
 | none =>
  grind [Bl,Jiv]
 | some code =>
  by_cases hc:(Nat.ble c.Γ.env.length fn.ntmps&&(Nw c.Γ.env 0&&Nat.blt c.Γ.env.length 100000))=true
  ·have hc':=hc
   simp only[QJ]at hc'
   refine Joo hT hf hcf hb hc'.1 hc'.2.1 hc'.2.2 fun x y X β ρ a w Q hy hG hX hr hp hR H=>?_
   rw[hrun]at hy
   unfold Jiv at hy
   rw[hb,hc]at hy
   exact Xn hT hmix ⟨hK,hG⟩ hX hr hp an hR hy H
  ·refine Bl fun x=>?_
   rw[hrun]
   unfold Jiv
   rw[hb]
   grind
end
end Gx
namespace Gx
open Go
theorem Ju9{P:Program}{gl:List (Nat×Σ t:Ty,t.De)}:Q26 P gl []:=fun _ h=>by cases h
theorem Jtc{P:Program}{c:Con}{gl:List (Nat×Σ t:Ty,t.De)}{K:List Con}(h:Qgv P gl c)(hr:Gd.Runs P c.f)(hk:Q26 P gl K):Q26 P gl (c::K):=fun d hd=>by
 rcases QX.1 hd with rfl | hd
 ·exact⟨h,hr⟩
 ·exact hk d hd
end Gx
