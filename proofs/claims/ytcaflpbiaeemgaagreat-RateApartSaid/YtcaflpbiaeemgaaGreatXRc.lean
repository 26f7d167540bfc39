/- A region whose order is drawn, by an invariant alone. -/
import Derived.Test.YtcaflpbiaeemgaaGreatXMo
import Derived.Test.YtcaflpbiaeemgaaGreatXH
import Derived.Maps.RangeRun
import Derived.Scope
set_option linter.unusedVariables false
set_option linter.unusedSimpArgs false
namespace Gx
open Go Go.RowKit Gd
section
variable {P:Program} {a:Act} {w:World}
theorem Jin(I:(Nat→Bool)→Act→World→Prop){id:Nat}{l:List Oper}{Q:Exit→Act→World→Prop}(hm:P.follows .mixedOrders=true)(p:Nat)(hIE:∀(E E':Nat→Bool) (a:Act) (w:World),(∀i,i<p→E i=E' i)→I E a w→I E' a w)
  (hple:Nat.ble p l.length=true) (hback:Gd.backB l=true) (hfin:J54 l p=true) (h0:I (fun _=>false) a w.drew)
  (hstep:∀(E:Nat→Bool) (i:Nat) (o:Oper) (a:Act) (w:World) (Q':Exit→Act→World→Prop),i<p→l[i]?=some o→Qw7 l (fun j=>E j=true)→E i=false→(∀e∈o.after.toList,Region.binds .any e=true→E e.on=true)→I E a w →
   (∀a' w',I (fun j=>j==i||E j) a' w'→Q' .normal a' w')→wpList P ⟨l⟩ Q' [o] a w)
  (hend:∀a' w',I (fun _=>true) a' w'→wpList P ⟨l⟩ Q (l.drop p) a' w') :
  (Code.region id ⟨l⟩ true).wp P Q a w:=by
 refine wp_region_any hm ?_;have hpl:=QV hple
 let E (listed:Array Bool):Nat→Prop:=fun i=>listed.getD i false=true
 let J1 (listed:Array Bool) (a:Act) (w:World):Prop:=(∀k,p≤k→¬ E listed k)∧I (fun i=>listed.getD i false) a w
 let J (listed:Array Bool) (a:Act) (w:World):Prop:=listed.size=l.length∧Qw7 l (E listed) ∧
  (J1 listed a w∨(∃k,p<k∧(∀i,i<l.length→(E listed i↔i<k))∧wpList P ⟨l⟩ Q (l.drop k) a w))
 have hset:∀(listed:Array Bool) (i j:Nat),listed.size=l.length→i<l.length→(E (listed.setIfInBounds i true) j↔(j=i∨E listed j)):=by
  intro listed i j hs hi;simp only[E,QP,Array.getElem?_setIfInBounds,hs];grind
 have hsetB:∀(listed:Array Bool) (i j:Nat),listed.size=l.length→i<l.length→(listed.setIfInBounds i true).getD j false=(j==i||listed.getD j false):=by
  grind
 have hgo:∀listed a w,J1 listed a w→(∀j,j<p→E listed j)→wpList P ⟨l⟩ Q (l.drop p) a w:=by
  grind
 have hdone:∀listed a w,J listed a w→(∀i,i<l.length→E listed i)→Q .normal a w:=by
  rintro listed a w ⟨hs,hc,h1 | ⟨k,hk,hE,hw⟩⟩ hall
  ·have hpm:p=l.length:=by
    rcases Nat.lt_or_ge p l.length with hlt | hge
    ·grind
    ·omega
   have:=hgo listed a w h1 fun i hi=>hall i (by omega);rw[hpm,XM]at this;exact this
  ·have hkl:l.length≤k:=by
    grind
   rw[ZD hkl]at hw;exact hw
 have step1:∀(listed:Array Bool) (a:Act) (w:World) (i:Nat) (o:Oper) (Q':Exit→Act→World→Prop),listed.size=l.length→Qw7 l (E listed)→J1 listed a w→i<p→l[i]?=some o→¬ E listed i →
   (∀e∈o.after.toList,Region.binds .any e=true→listed.getD e.on false=true)→(∀a' w',J1 (listed.setIfInBounds i true) a' w'→Q' .normal a' w')→wpList P ⟨l⟩ Q' [o] a w:=by
  grind
 have main:∀(fuel:Nat) (listed:Array Bool) (a:Act) (w:World),J listed a w→((List.range l.length).filter fun i=>!listed.getD i false).length≤fuel→wpAny P .any ⟨l⟩ Q fuel listed a w:=by
  intro fuel
  induction fuel with
  | zero =>
   intro listed a w hJ hle
   have hall:∀i,i<l.length→E listed i:=by
    intro i hi;cases hl:listed.getD i false with
    | true=>exact hl
    | false =>
     have:i∈(List.range l.length).filter fun i=>!listed.getD i false:=QB.2 ⟨JU.2 hi,by rw[hl]; rfl⟩;have hnil:=QF (Nat.le_zero.1 hle);rw[hnil]at this; simp at this
   refine⟨?_,hdone listed a w hJ hall⟩;apply List.eq_nil_iff_forall_not_mem.2;intro i hi;rw[Qrp]at hi;have h1:=hall i hi.1;have h2:=hi.2.1;grind
  | succ fuel ih =>
   intro listed a w hJ hle;refine⟨fun hr=>hdone listed a w hJ (Jh0 hJ.1 hback hr),fun i hi=>?_⟩;rw[Qrp]at hi;obtain⟨hil,hnl,o,ho,hpre⟩:=hi;obtain⟨hs,hc,hcase⟩:=hJ
   have hniE:¬ E listed i:=by
    grind
   have hcl:Qw7 l (E (listed.setIfInBounds i true)):=by
    intro j oj hj hoj e he hb;rw[hset listed i _ hs hil]at hj ⊢;rcases hj with rfl | hj
    ·rw[ho]at hoj; grind
    ·exact .inr (hc j oj hj hoj e he hb)
   have hcnt:((List.range l.length).filter fun j=>!(listed.setIfInBounds i true).getD j false).length≤fuel:=by
    have hlt:((List.range l.length).filter fun j=>!(listed.setIfInBounds i true).getD j false).length<((List.range l.length).filter fun j=>!listed.getD j false).length:=by
     apply Qyh (x:=i)
     ·grind
     ·grind
     ·have:=(hset listed i i hs hil).2 (.inl rfl)
      grind
     grind
    omega
   rcases hcase with hJ1 | ⟨k,hk,hE,hw⟩
   ·rcases Nat.lt_or_ge i p with hip | hip
    ·
     exact Q6m ho (step1 listed a w i o (Exit.then (wpAny P .any ⟨l⟩ Q fuel (listed.setIfInBounds i true)) Q) hs hc hJ1 hip ho hniE hpre fun a' w' hJ1=>ih _ a' w' ⟨by simp[hs],hcl,.inl hJ1⟩ hcnt)
    ·
     have hall:∀j,j<i→E listed j:=fun j hj=>Qd1 hc l.length i j (Jlm hfin hip hil hj) fun o' ho'=>by rw[ho]at ho'; injection ho' with ho'; subst ho'; exact hpre
     have hip':i=p:=by
      rcases Nat.lt_or_ge p i with hlt | hge
      ·exact absurd (hall p hlt) (hJ1.1 p (QY _))
      ·omega
     subst hip';have hw:=hgo listed a w hJ1 hall;refine wpOp_mono (fun a w hw'=>ih _ a w ⟨by simp[hs],hcl,.inr ⟨i+1,by omega,fun j hj=>?_,hw'⟩⟩ hcnt) (Qpm ho hw);rw[hset listed i j hs hil];grind
   ·
    have hall:∀j,j<i→E listed j:=by
     intro j hj
     have hpi:p<i:=by
      rcases Nat.lt_or_ge i k with h1 | h1
      ·exact absurd ((hE i hil).2 h1) hniE
      ·omega
     exact Qd1 hc l.length i j (Jlm hfin (by omega) hil hj) fun o' ho'=>by rw[ho]at ho'; injection ho' with ho'; subst ho'; exact hpre
    have hik:i=k:=by
     rcases Nat.lt_or_ge i k with h1 | h1
     ·exact absurd ((hE i hil).2 h1) hniE
     ·rcases Nat.lt_or_ge k i with h2 | h2
      ·have:=(hE k (by omega)).1 (hall k h2); omega
      ·omega
    subst hik;refine wpOp_mono (fun a w hw'=>ih _ a w ⟨by simp[hs],hcl,.inr ⟨i+1,by omega,fun j hj=>?_,hw'⟩⟩ hcnt) (Qpm ho hw);rw[hset listed i j hs hil,hE j hj];constructor
    ·rintro(rfl | h1)<;>omega
    ·intro h1
     rcases Nat.lt_or_ge j i with h2 | h2
     ·exact .inr h2
     ·exact .inl (by omega)
 refine main _ _ a _ ⟨by simp,fun i o hE=>?_,.inl ⟨fun k _ hE=>?_,?_⟩⟩ ?_
 ·simp only[E]at hE; simp[QP,XY]at hE
  split at hE<;>simp at hE
 ·simp only[E]at hE; simp[QP,XY]at hE
  split at hE<;>simp at hE
 ·refine hIE (fun _=>false) _ a _ (fun i hi=>?_) h0
  simp only[QP,XY];split<;>rfl
 grind
end
end Gx

/- One operation, with the rest of the state set aside. -/
namespace Gx
open Go Go.RowKit Gd
theorem Qoa{β:Nat→Nat}{ρ:Nat→Value}:∀{M:List (Nat×Ob)} {q:Nat×Ob},Gn M=true→q∈M→∀{b o:Nat},(Jb β ρ q.1 q.2).blks b→(Jb β ρ q.1 q.2).cov b o
 | (k,ob)::l,q,h,hq,b,o,hb=>by
  cases ob with
  | tail e t xs=>cases h
  | _ =>
   rcases QX.1 hq with rfl | hq
   ·exact hb
   ·exact Qoa (M:=l) h hq hb
def J1y(o:Oper)(a a':Act):Prop:=∀t,o.dst≠some t→a'.tmps[t]?=a.tmps[t]?
def J1z(o:Oper)(a:Act)(Q:Exit→Act→World→Prop):Exit→Act→World→Prop
 | .normal,a',w'=>J1y o a a'→Q .normal a' w'
 | e,a',w'=>Q e a' w'
theorem Tk(o:Oper)(a:Act)(v:Value):J1y o a (a.put o.dst v):=by
 intro t ht;cases hd:o.dst with
 | none=>rfl
 | some d=>grind [Vy]
theorem Jcp{P:Program}{ops:Array Oper}{Q:Exit→Act→World→Prop}{o:Oper}{a:Act}{w:World}(h:wpList P ops (J1z o a Q) [o] a w):wpList P ops Q [o] a w:=by
 unfold wpList at h ⊢;split at h
 ·rename_i hw
  rw[if_pos hw];rcases h with h | ⟨h1,h2⟩
  ·left
   unfold Oper.wp at h ⊢;cases hr:(execOp a.eval o).run P w with
   | ok nx w' =>
    rw[hr]at h;cases nx with
    | value v=>exact h (Tk o a v)
    | skip=>exact h (Tk o a undef)
    | defer d =>
     refine h fun t ht=>?_;have:=Tk o { a with defers:=d::a.defers } undef t ht;exact this
    | enter f args =>
     refine Calls.mono h fun e w' he=>?_;cases e with
     | returned v=>exact he (Tk o a v)
     | panicked c=>exact he
     | outgrown=>exact he
    | row r args=>exact Rows.mono h fun v w' hv=>hv (Tk o a v)
    | _=>exact h.elim
   | halt hl w' =>
    rw[hr]at h;cases hl with
    | panic v=>exact h
    | _=>exact h.elim
  ·exact .inr ⟨h1,h2⟩
 ·rename_i hw
  rw[if_neg hw];exact h (Tk o a undef)
open Classical in
noncomputable def Im(n:Nat)(O:List TL):List Nat:=(List.range n).filter fun g=>decide (∃t∈O,t.blks g)
section
variable {P:Program} {Y:TX} {X:Cx} {β:Nat→Nat} {ρ:Nat→Value} {a:Act} {w:World} {ops:Array Oper} {Q:Exit→Act→World→Prop} {o:Oper}
theorem Juj(hG:Zj Y.gl (okN X) X.w)(hr:X.res=[])(hp:X.pin=none){Ve Fe:List En}{Vm Fm:List (Nat×Ob)}{S1:St}{pr:List Nat}(h:Rel X β ρ ⟨Ve++Fe,Vm++Fm⟩ a w)(hV:Gn Vm=true)
    (hF:∀e∈Fe,(∀i∈Jk e.av,i∈pr)∧∀d,o.dst=some d→e.t≠d∧∀c∈e.cs,c.1≠d) (hFm:∀i∈Jq Fm,i∈pr)
    (hstep:∀(X1:Cx) (Q1:Exit→Act→World→Prop),X1.n=X.n→X1.res=[]→X1.pin=none→Zj Y.gl (okN X1) X1.w→Rel X1 β ρ ⟨Ve,Vm⟩ a w→(∀β' ρ' a' w',agP pr β β' ρ ρ'→Rel X1 β' ρ' S1 a' w'→Q1 .normal a' w')→wpList P ops Q1 [o] a w)
    (H:∀β' ρ' a' w',agP pr β β' ρ ρ'→Rel X β' ρ' ⟨S1.env++Fe,S1.mem++Fm⟩ a' w'→Q .normal a' w'):wpList P ops Q [o] a w:=by
  have eM:Qq β ρ (Vm++Fm)=Qq β ρ Vm++Qq β ρ Fm:=QC;have hS:Sb (fun _=>0) X [] ((Ve++Fe).map (enD β ρ a)) [] (Qq β ρ Vm++Qq β ρ Fm) a w:=by rw[←eM]; exact h
  have hL1:∀t∈Qq β ρ Vm,∀g,t.blks g→g∈Im w.heap.size (Qq β ρ Vm):=fun t ht g hg=>by
    unfold Im;exact QB.2 ⟨JU.2 (hS.olt (List.mem_append_left _ ht) hg),by grind⟩
  have hL2:∀g∈Im w.heap.size (Qq β ρ Vm),∃t∈Qq β ρ Vm,t.blks g:=fun g hg=>by
    simp_all [Im,QB,decide_eq_true_eq]
  have hcov:∀t∈Qq β ρ Vm,∀b o,t.blks b→t.cov b o:=fun t ht b o hb=>by
    obtain⟨q,hq,rfl⟩:=QK.1 ht;grind [Qoa]
  have hk:∀b f,Jr X.ok X.w.heap.size (fun _=>0) [] (Qq β ρ Vm++Qq β ρ Fm) w b f→Jr (okL (Im w.heap.size (Qq β ρ Vm)) (Jr X.ok X.w.heap.size (fun _=>0) [] (Qq β ρ Vm++Qq β ρ Fm) w)) w.heap.size (fun _=>0) [] (Qq β ρ Vm) w b f :=
    fun b f hbo=>⟨.inl (.inl hbo),hbo.2.1,by simp,fun t ht hc=>hbo.2.2.2 t (List.mem_append_left _ ht) hc⟩
  refine Jcp (hstep { cxL (Im w.heap.size (Qq β ρ Vm)) X.n (Jr X.ok X.w.heap.size (fun _=>0) [] (Qq β ρ Vm++Qq β ρ Fm) w) w with dfs:=X.dfs } (J1z o a Q) rfl rfl rfl ?_ ?_ fun β' ρ' a' w' hag hR hsame=>?_)
  · exact(Qd9 hS hG).weak fun b f hbo=>⟨.inl hbo,fun hbl=>by
      obtain⟨t,ht,hg⟩:=hL2 b hbl
      exact hbo.2.2.2 t (List.mem_append_left _ ht) (hcov t ht b f hg),hbo.2.1⟩
  · exact { sz:=hS.sz,df:=hS.df,fr:=by simp,pn:=by simp,tm:=by simp,bel:=Ki.refl _ _ _,obj:=by simp,dHH:=by simp,dHO:=by simp,
            dat:=Yq.2 fun x hx=>by
              obtain⟨e,he,rfl⟩:=QK.1 hx;exact(enD β ρ a e).weak (Yq.1 hS.dat _ (QK.2 ⟨e,List.mem_append_left _ he,rfl⟩)) hk,
            own:=fun t ht=>⟨t.weak (hS.own t (List.mem_append_left _ ht)).1 hk,fun g hg=>.inr (hL1 t ht g hg)⟩,
            dOO:=(QA.1 hS.dOO).1 }
  · have hC:=Sb.callO (O1':=Qq β' ρ' S1.mem) hS hR.bel hL2 hcov (fun t ht=>⟨(hR.own t ht).1,fun g hg=>(hR.own t ht).2 g hg⟩) hR.dOO
    have hsim:Ha (Qq β ρ Fm) (Qq β' ρ' Fm):=Q3n fun i hi=>hag i (hFm i hi);have hC2:=hC.simO ((Ha.refl (Qq β' ρ' S1.mem)).append hsim);have hmem:Qq β' ρ' (S1.mem++Fm)=Qq β' ρ' S1.mem++Qq β' ρ' Fm:=QC
    have hC3:Sb (fun _=>0) X [] [] [] (Qq β' ρ' S1.mem++Qq β' ρ' Fm) a' w' :=
      { sz:=hR.sz,df:=hR.df,fr:=by rw[hr]; simp,pn:=by rw[hp]; simp,tm:=by simp,bel:=hC2.bel,dat:=trivial,obj:=by simp,own:=hC2.own,dHH:=by simp,dHO:=by simp,dOO:=hC2.dOO }
    refine H β' ρ' a' w' hag (Rel.ofSb hC3 hmem.symm fun e he=>?_);rcases QZ.1 he with he | he
    · have h1:=Yq.1 hR.dat _ (QK.2 ⟨e,he,rfl⟩)
      refine(enD β' ρ' a' e).weak h1 fun b f hbf=>?_;have h2:=Qlv hS hR.bel.size hL2 b f hbf;have h3:=((Ha.refl (Qq β' ρ' S1.mem)).append hsim).ok b f h2;grind
    · have h1:=Yq.1 hC2.dat _ (QK.2 ⟨e,List.mem_append_right _ he,rfl⟩)
      obtain⟨hi,hd⟩:=hF e he;have ht:∀t,(∀d,o.dst=some d→t≠d)→a'.tmps[t]?=a.tmps[t]?:=fun t ht=>hsame t fun hd=>ht t hd rfl;have hcc:J6 a' e.cs↔J6 a e.cs:=⟨fun hc c hm=>by rw[←ht _ fun d hd'=>(hd d hd').2 c hm]; exact hc c hm,fun hc c hm=>by rw[ht _ fun d hd'=>(hd d hd').2 c hm]; exact hc c hm⟩
      have hrd:rd a' e.t=rd a e.t:=by grind [rd]
      refine⟨fun hc=>?_,?_⟩
      · obtain⟨cs,q1,q2⟩:=h1.1 (hcc.1 hc)
        refine⟨cs,by rw[hrd]; exact q1,?_⟩;unfold okR;rw[hmem];exact Eo (fun i hm=>hag i (hi i hm)) q2
      · rw[hcc,hrd]; exact h1.2
end
end Gx

/- Regions of open order by ordinary steps: what is found, what is one's own. -/
namespace Gx
open Go Go.RowKit Gd
theorem Jio{id:Nat}{e:EC}{c:Option Ob}(h:K6 id e=false):upC id e c=c:=by
 unfold K6 at h;unfold upC;cases hl:Qt4 e.ups id with
 | none=>rfl
 | some x=>rw[hl]at h; cases h
theorem Qb2{E:Nat→Bool}{id:Nat}:∀{l1 l2:List EC} {j:Nat} {c:Option Ob},Y6 E id (l1++l2) j c=Y6 E id l2 (j+l1.length) (Y6 E id l1 j c)
 | [],l2,j,c=>rfl
 | e::l1,l2,j,c=>by
  simp only[QD,Y6,Qb2 (l1:=l1),List.length_cons];rw[show j+1+l1.length=j+(l1.length+1) by omega]
theorem T7{E E':Nat→Bool}{id:Nat}:∀{l:List EC} {j:Nat} {c:Option Ob},(∀(k:Nat) e,l[k]?=some e→K6 id e=true→E (j+k)=E' (j+k))→Y6 E id l j c=Y6 E' id l j c
 | [],j,c,_=>rfl
 | e0::l,j,c,h=>by
  simp only[Y6]
  have e:(bif E j then upC id e0 c else c)=(bif E' j then upC id e0 c else c):=by
   cases ht:K6 id e0 with
   | true=>rw[show E j=E' j from h 0 _ rfl ht]
   | false=>rw[Jio ht]; cases E j<;>cases E' j<;>rfl
  rw[e]
  exact T7 fun k g hk ht=>by
   have:=h (k+1) g (by simpa using hk) ht;rw[show j+1+k=j+(k+1) by omega]; exact this
theorem Tl{E:Nat→Bool}{id:Nat}:∀{l:List EC} {j:Nat} {c:Option Ob},(∀(k:Nat) e,l[k]?=some e→K6 id e=true→E (j+k)=false)→Y6 E id l j c=c
 | [],j,c,_=>rfl
 | e0::l,j,c,h=>by
  simp only[Y6]
  have e:(bif E j then upC id e0 c else c)=c:=by
   cases ht:K6 id e0 with
   | true=>rw[show E j=false from h 0 _ rfl ht]; rfl
   | false=>rw[Jio ht]; cases E j<;>rfl
  rw[e]
  exact Tl fun k g hk ht=>by
   have:=h (k+1) g (by simpa using hk) ht;rw[show j+1+k=j+(k+1) by omega]; exact this
theorem Jcq{acc:List EC}{i:Nat}{g:EC}(hg:acc[i]?=some g):acc=acc.take i++g::acc.drop (i+1)∧(acc.take i).length=i:=by
 have hi:i<acc.length:=(List.getElem?_eq_some_iff.1 hg).1;rw[List.getElem?_eq_getElem hi]at hg;grind [List.length_take,List.drop_eq_getElem_cons,List.take_append_drop]
section
variable {E:Nat→Bool} {acc:List EC} {i id:Nat} {g:EC} {c:Option Ob}
theorem Juk(hg:acc[i]?=some g)(hi:E i=false)(he:∀(j:Nat) g',acc[j]?=some g'→j<i→K6 id g'=true→E j=true)(hl:∀(j:Nat) g',acc[j]?=some g'→i<j→K6 id g'=true→E j=false) :
  Y6 E id acc 0 c=Y6 Ei id (acc.take i) 0 c:=by
 obtain⟨e1,e2⟩:=Jcq hg;have e3:Y6 E id acc 0 c=Y6 E id (acc.take i++g::acc.drop (i+1)) 0 c:=by rw[←e1]
 rw[e3,Qb2,e2,QW];simp only[Y6,hi,cond_false];rw[Tl fun k g' hk ht=>hl (i+1+k) g' (by rw[JV]at hk; exact hk) (by omega) ht];refine T7 fun k g' hk ht=>?_;rw[JK]at hk;split at hk
 ·rw[QW,he k g' hk (by omega) ht]; rfl
 ·cases hk
theorem Jul(hg:acc[i]?=some g)(hi:E i=false)(hl:∀(j:Nat) g',acc[j]?=some g'→i<j→K6 id g'=true→E j=false) :
  Y6 (Qme E i) id acc 0 c=upC id g (Y6 E id acc 0 c):=by
 obtain⟨e1,e2⟩:=Jcq hg;have e3:∀E,Y6 E id acc 0 c=Y6 E id (acc.take i++g::acc.drop (i+1)) 0 c:=fun E=>by rw[←e1]
 rw[e3,e3,Qb2,Qb2,e2,QW];simp only[Y6,hi,cond_false,BEq.rfl,Bool.true_or,cond_true]
 have h1:Y6 (Qme E i) id (acc.take i) 0 c=Y6 E id (acc.take i) 0 c:=T7 fun k g' hk ht=>by
  have:k<i:=by
   rw[JK]at hk;grind
  simp only[Qme,QW];rw[show(k==i)=false by simp; omega]; rfl
 have h2:∀c',Y6 (Qme E i) id (acc.drop (i+1)) (i+1) c'=c':=fun c'=>Tl fun k g' hk ht=>by
  grind
 have h3:∀c',Y6 E id (acc.drop (i+1)) (i+1) c'=c':=fun c'=>Tl fun k g' hk ht=>hl (i+1+k) g' (by rw[JV]at hk; exact hk) (by omega) ht;rw[h2,h3,h1];grind
theorem Jum(hg:acc[i]?=some g)(ht:K6 id g=false):Y6 (Qme E i) id acc 0 c=Y6 E id acc 0 c :=
 T7 fun k g' hk ht'=>by
  rw[QW]
  by_cases e:k=i
  ·grind
  grind
theorem Qqh{E:Nat→Bool}:∀{acc:List EC} {j:Nat} {e:En},e∈Rm E acc j→∃(k:Nat) (g:EC),acc[k]?=some g∧E (j+k)=true∧g.has=true∧e=⟨g.d,[],g.av⟩
 | [],j,e,h=>by cases h
 | g::l,j,e,h=>by
  simp only[Rm]at h;cases hb:(E j&&g.has)with
  | true =>
   rw[hb]at h;simp only[QQ]at hb;rcases QX.1 h with rfl | h
   ·exact⟨0,g,rfl,hb.1,hb.2,rfl⟩
   ·obtain⟨k,g',h1,h2,h3,h4⟩:=Qqh h
    exact⟨k+1,g',by simpa using h1,by rw[show j+(k+1)=j+1+k by omega]; exact h2,h3,h4⟩
  | false =>
   rw[hb]at h;obtain⟨k,g',h1,h2,h3,h4⟩:=Qqh h;exact⟨k+1,g',by simpa using h1,by rw[show j+(k+1)=j+1+k by omega]; exact h2,h3,h4⟩
theorem Q7a{E:Nat→Bool}:∀{acc:List EC} {j k:Nat} {g:EC},acc[k]?=some g→E (j+k)=true→g.has=true→(⟨g.d,[],g.av⟩:En)∈Rm E acc j
 | [],j,k,g,h,_,_=>by simp at h
 | g0::l,j,0,g,h,h1,h2=>by
  grind [Rm]
 | g0::l,j,k+1,g,h,h1,h2=>by
  have:=Q7a (acc:=l) (j:=j+1) (k:=k) (by simpa using h) (by rw[show j+1+k=j+(k+1) by omega]; exact h1) h2;grind [Rm]
end
theorem Jp4{ids:List Nat}:∀{names:List Nat},ids.Nodup→names.Nodup→(∀i∈ids,i∈names)→names.Perm (ids++names.filter fun i=>!Yr ids i):=by
 induction ids with
 | nil =>
  intro names _ _ _;have:(names.filter fun i=>!Yr [] i)=names:=List.filter_eq_self.2 fun _ _=>rfl;rw[this];grind
 | cons x ids ih =>
  intro names hi hn hs;have hi':=JJ.1 hi;obtain⟨l1,l2,rfl⟩:=List.append_of_mem (hs x (.head _))
  have hn2:(l1++l2).Nodup∧x∉l1++l2:=by
   have:=(List.perm_middle.nodup_iff (l₁:=l1++x::l2)).1 hn;grind
  have h1:=ih (names:=l1++l2) hi'.2 hn2.1 fun i him=>by
   have:=hs i (.tail _ him);grind
  have e:((l1++x::l2).filter fun i=>!Yr (x::ids) i)=(l1++l2).filter fun i=>!Yr ids i:=by
   have hf:∀l:List Nat,x∉l→(l.filter fun i=>!Yr (x::ids) i)=l.filter fun i=>!Yr ids i:=fun l hx=>by
    refine List.filter_congr fun i him=>?_;have hne:x≠i:=fun e=>hx (e▸him);simp only[Yr,J75 hne,ZE]
   rw[JG,XL];have hx0:(!Yr (x::ids) x)=false:=by simp[Yr,Nat.beq_refl]
   rw[hx0];grind
  rw[e];exact List.perm_middle.trans (List.Perm.cons x h1)
end Gx

/- One operation of a region of open order, by an ordinary step. -/
namespace Gx
open Go Go.RowKit Gd
theorem Qsd:∀{ids:List Nat} {M:List (Nat×Ob)},ids.Nodup→(Jv M ids).2=ids.filterMap fun t=>Xh t (Qk M t)
 | [],M,_=>rfl
 | t::ts,M,hn=>by
  have hn':=JJ.1 hn;simp only[Jv,JB];cases hl:Qk M t with
  | none=>simp only[Xh]; exact Qsd hn'.2
  | some o =>
   simp only[Xh];rw[Qsd (M:=Ya M t) hn'.2];congr 1;exact Vp fun j hj=>by rw[Qx3 fun(e:j=t)=>hn'.1 (by rw[←e]; exact hj)]; cases Qk M j<;>rfl
theorem Qed{f:Nat→Option Ob}{id:Nat}:∀{ids:List Nat},Qt4 (ids.map fun i=>(i,f i)) id=if id∈ids then some (f id)else none
 | []=>rfl
 | k::l=>by
  simp only[JQ,Qt4];cases hb:Nat.beq k id with
  | true =>
   have:=Nat.eq_of_beq_eq_true hb;subst this;simp
  | false =>
   have hne:id≠k:=fun e=>by simp_all
   simp only[cond_false,Qed (ids:=l),QX,hne,false_or]
section
variable {P:Program} {Y:TX} {X:Cx} {β:Nat→Nat} {ρ:Nat→Value} {a:Act} {w:World} {ops:Array Oper} {Q:Exit→Act→World→Prop} {o:Oper}
theorem Jun(hG:Zj Y.gl (okN X) X.w)(hr:X.res=[])(hp:X.pin=none){names:List Nat}{Zs Mb:List (Nat×Ob)}{acc:List EC}{E:Nat→Bool}{B Ve:List En}{i:Nat}{g:EC}{tch ro bs pr:List Nat}{S1:XS}
  (h:Rel X β ρ ⟨Rm E acc 0++B,Ik names Zs acc E++Mb⟩ a w) (hg:acc[i]?=some g) (hi:E i=false) (hnn:names.Nodup) (hnd:(tch++ro++bs).Nodup) (hsub:∀id∈tch++ro++bs,id∈names)
  (hearly:∀id∈tch++ro,∀(j:Nat) g',acc[j]?=some g'→j<i→K6 id g'=true→E j=true) (hlate:∀id∈tch++ro++bs,∀(j:Nat) g',acc[j]?=some g'→i<j→K6 id g'=true→E j=false)
  (hbs:∀id∈bs,Y6 E id acc 0 (Qk Zs id)=none) (hVe:∀e∈Ve,e∈Rm E acc 0++B) (hups:g.ups=(tch++bs).map fun id=>(id,Qk S1.mem id)) (hgd:g.has=true→∃cs,(⟨g.d,cs,g.av⟩:En)∈S1.env∧cs=[]) (hod:∀d,o.dst=some d→d=g.d)
  (hnt:Gn ((tch.filterMap fun id=>Xh id (Y6 Ei id (acc.take i) 0 (Qk Zs id)))++ro.filterMap fun id=>Xh id (Y6 Ei id (acc.take i) 0 (Qk Zs id)))=true)
  (hF:∀e∈Rm E acc 0++B,(∀i∈Jk e.av,i∈pr)∧∀d,o.dst=some d→e.t≠d∧∀c∈e.cs,c.1≠d) (hFm:∀id∈Jq (((names.filter fun j=>!Yr (tch++ro++bs) j).filterMap fun id=>Xh id (Y6 E id acc 0 (Qk Zs id)))++Mb),id∈pr)
  (hstep:∀(X1:Cx) (Q1:Exit→Act→World→Prop),X1.n=X.n→X1.res=[]→X1.pin=none→Zj Y.gl (okN X1) X1.w→Rel X1 β ρ ⟨Ve,(tch.filterMap fun id=>Xh id (Y6 Ei id (acc.take i) 0 (Qk Zs id)))++ro.filterMap fun id=>Xh id (Y6 Ei id (acc.take i) 0 (Qk Zs id))⟩ a w→(∀β' ρ' a' w',agP pr β β' ρ ρ'→Rel X1 β' ρ' ⟨S1.env,S1.mem++(ro.filterMap fun id=>Xh id (Y6 Ei id (acc.take i) 0 (Qk Zs id)))⟩ a' w'→Q1 .normal a' w')→wpList P ops Q1 [o] a w)
  (H:∀β' ρ' a' w',agP pr β β' ρ ρ'→Rel X β' ρ' ⟨Rm (Qme E i) acc 0++B,Ik names Zs acc (Qme E i)++Mb⟩ a' w'→Q .normal a' w'):wpList P ops Q [o] a w:=by
 have hpart:=Jp4 hnd hnn hsub;have hnow:∀id∈tch++ro,Y6 E id acc 0 (Qk Zs id)=Y6 Ei id (acc.take i) 0 (Qk Zs id):=fun id hm=>Juk hg hi (hearly id hm) (hlate id (List.mem_append_left _ hm));have hT:(tch.filterMap fun id=>Xh id (Y6 E id acc 0 (Qk Zs id)))=tch.filterMap fun id=>Xh id (Y6 Ei id (acc.take i) 0 (Qk Zs id)):=(Vp fun id hm=>by rw[hnow id (List.mem_append_left _ hm)])
 have hR:(ro.filterMap fun id=>Xh id (Y6 E id acc 0 (Qk Zs id)))=ro.filterMap fun id=>Xh id (Y6 Ei id (acc.take i) 0 (Qk Zs id)):=(Vp fun id hm=>by rw[hnow id (List.mem_append_right _ hm)])
 have hB0:(bs.filterMap fun id=>Xh id (Y6 E id acc 0 (Qk Zs id)))=[]:=by
  rw[ZK];intro id hm;rw[hbs id hm]; rfl
 have hpm:(Ik names Zs acc E++Mb).Perm ((tch.filterMap fun id=>Xh id (Y6 Ei id (acc.take i) 0 (Qk Zs id)))++(ro.filterMap fun id=>Xh id (Y6 Ei id (acc.take i) 0 (Qk Zs id)))++(((names.filter fun j=>!Yr (tch++ro++bs) j).filterMap fun id=>Xh id (Y6 E id acc 0 (Qk Zs id)))++Mb)):=by
  have h1:=hpart.filterMap fun id=>Xh id (Y6 E id acc 0 (Qk Zs id));rw[JX,JX,JX,hT,hR,hB0,QH]at h1;rw[←List.append_assoc];exact h1.append_right Mb
 have h2:Rel X β ρ ⟨Ve++(Rm E acc 0++B),_⟩ a w:=Rel.less (Rel.permM h hpm) fun e he=>by
  grind
 refine Juj hG hr hp h2 hnt hF hFm hstep fun β' ρ' a' w' hag hR1=>H β' ρ' a' w' hag ?_
 have htc:∀id,K6 id g=decide (id∈tch++bs):=fun id=>by
  unfold K6;rw[hups,Qed]
  by_cases hm:id∈tch++bs
  ·rw[if_pos hm]; simp[B6,hm]
  simp_all [if_neg,B6]
 have hup:∀id∈tch++bs,Y6 (Qme E i) id acc 0 (Qk Zs id)=Qk S1.mem id:=fun id hm=>by
  have hm3:id∈tch++ro++bs:=by
   grind
  rw[Jul hg hi (hlate id hm3)];unfold upC;rw[hups,Qed,if_pos hm]
 have hoff:∀id,id∉tch++bs→Y6 (Qme E i) id acc 0 (Qk Zs id)=Y6 E id acc 0 (Qk Zs id):=fun id hm=>Jum hg (by rw[htc]; simpa using hm);have hnd2:=List.nodup_append.1 hnd;have hnd3:=List.nodup_append.1 hnd2.1
 have hndtb:(tch++bs).Nodup:=by
  rw[List.nodup_append];grind
 have hpm2:(Ik names Zs acc (Qme E i)++Mb).Perm ((Jv S1.mem (tch++bs)).2++(ro.filterMap fun id=>Xh id (Y6 Ei id (acc.take i) 0 (Qk Zs id)))++(((names.filter fun j=>!Yr (tch++ro++bs) j).filterMap fun id=>Xh id (Y6 E id acc 0 (Qk Zs id)))++Mb)):=by
  have h1:=hpart.filterMap fun id=>Xh id (Y6 (Qme E i) id acc 0 (Qk Zs id));rw[JX,JX,JX]at h1
  have e1:((tch.filterMap fun id=>Xh id (Y6 (Qme E i) id acc 0 (Qk Zs id)))++(bs.filterMap fun id=>Xh id (Y6 (Qme E i) id acc 0 (Qk Zs id))))=(Jv S1.mem (tch++bs)).2:=by
   rw[Qsd hndtb,←JX];grind [Vp,id]
  have e2:(ro.filterMap fun id=>Xh id (Y6 (Qme E i) id acc 0 (Qk Zs id)))=(ro.filterMap fun id=>Xh id (Y6 Ei id (acc.take i) 0 (Qk Zs id))):=by
   rw[←hR]
   refine Vp fun id hm=>by
    rw[hoff id fun hm2=>?_];grind
  have e3:((names.filter fun j=>!Yr (tch++ro++bs) j).filterMap fun id=>Xh id (Y6 (Qme E i) id acc 0 (Qk Zs id)))=(names.filter fun j=>!Yr (tch++ro++bs) j).filterMap fun id=>Xh id (Y6 E id acc 0 (Qk Zs id)):=by
   refine Vp fun id hm=>by
    rw[hoff id fun hm2=>?_];have h3:=(QB.1 hm).2;grind
  rw[e2,e3]at h1;rw[←e1,←List.append_assoc];refine(h1.append_right Mb).trans ?_;refine List.Perm.append_right _ (List.Perm.append_right _ ?_);rw[List.append_assoc,List.append_assoc];exact List.Perm.append_left _ JY
 have hsp:(S1.mem++(ro.filterMap fun id=>Xh id (Y6 Ei id (acc.take i) 0 (Qk Zs id)))++(((names.filter fun j=>!Yr (tch++ro++bs) j).filterMap fun id=>Xh id (Y6 E id acc 0 (Qk Zs id)))++Mb)).Perm ((Jv S1.mem (tch++bs)).1++((Jv S1.mem (tch++bs)).2++(ro.filterMap fun id=>Xh id (Y6 Ei id (acc.take i) 0 (Qk Zs id)))++(((names.filter fun j=>!Yr (tch++ro++bs) j).filterMap fun id=>Xh id (Y6 E id acc 0 (Qk Zs id)))++Mb))):=by
  have h1:=(Xj (tch++bs) S1.mem).symm.trans JY;have h3:=(h1.append_right (ro.filterMap fun id=>Xh id (Y6 Ei id (acc.take i) 0 (Qk Zs id)))).append_right (((names.filter fun j=>!Yr (tch++ro++bs) j).filterMap fun id=>Xh id (Y6 E id acc 0 (Qk Zs id)))++Mb);grind
 have hR2:=Rel.permM hR1 hsp;have hR3:Rel X β' ρ' ⟨S1.env++(Rm E acc 0++B),(Jv S1.mem (tch++bs)).2++(ro.filterMap fun id=>Xh id (Y6 Ei id (acc.take i) 0 (Qk Zs id)))++(((names.filter fun j=>!Yr (tch++ro++bs) j).filterMap fun id=>Xh id (Y6 E id acc 0 (Qk Zs id)))++Mb)⟩ a' w':=Sb.subO hR2 ((List.sublist_append_right _ _).map _);refine Rel.less (Rel.permM hR3 hpm2.symm) fun e he=>?_;rcases QZ.1 he with he | he
 ·obtain⟨k,g',q1,q2,q3,rfl⟩:=Qqh he
  rw[QW]at q2
  by_cases hki:k=i
  ·grind
  ·simp only[Qme]at q2
   rw[show(k==i)=false by simp; omega,ZE]at q2;exact List.mem_append_right _ (List.mem_append_left _ (Q7a q1 (by rw[QW]; exact q2) q3))
 grind
end
end Gx

/- A region of open order by ordinary steps: the interpreter. -/
namespace Gx
open Go Go.RowKit Gd
theorem Q3r:∀{acc:List EC} {t:Nat} {v:AV},Qp5 acc t=some v→∃g∈acc,g.d=t∧g.has=true∧g.av=v
 | [],t,v,h=>by simp[Qp5]at h
 | g::l,t,v,h=>by
  simp only[Qp5]at h;cases hb:(Nat.beq g.d t&&g.has)with
  | true =>
   rw[hb]at h;simp_all
  | false =>
   rw[hb]at h;obtain⟨g',h1,h2⟩:=Q3r h;grind
theorem Qee{l0:List Oper}{ds:List Nat}{i:Nat}{acc:List EC}{B:List En}:∀{ts:List Nat} {e:En},e∈Qxt l0 ds i acc B ts →
  (e.cs=[]∧Qp5 acc e.t=some e.av∧Jks l0 i (ds.idxOf e.t)=true)∨e∈B
 | [],e,h=>by
  grind [Qqd,Qxt]
 | t::ts,e,h=>by
  simp only[Qxt]at h;split at h
  ·rename_i v hv
   cases hp:Jks l0 i (ds.idxOf t)with
   | true =>
    rw[hp]at h;rcases QX.1 h with rfl | h
    ·grind
    ·exact Qee h
   | false=>rw[hp]at h; exact Qee h
  ·cases hb:Qtt ds t with
   | true =>
    rw[hb]at h;simp only[cond_true]at h;split at h
    ·rename_i t' v he
     obtain⟨h1,h2⟩:=Kl he;rcases QX.1 h with rfl | h
     ·exact .inr h1
     ·exact Qee h
    ·exact Qee h
   | false=>rw[hb]at h; exact Qee h
theorem Pf{l m:List Nat}(h:Qhm l m=true){x:Nat}(h1:x∈l)(h2:x∈m):False:=by
 have:=QR.1 h x h1;rw[Qqe h2]at this; cases this
section
variable {R:Type} (Y:TX) (K:List Con) (n:Nat) (l0:List Oper) (ds:List Nat) (Zs:List (Nat×Ob)) (B:List En) (prA:List Nat)
def TrC:List HD→List Oper→Nat→List EC→List EC→Prop
 | [],[],_,_,[]=>True
 | hc::hs,o::l,i,acc,g::acc2=>(∃S1,Vk (R:=XS) Y K n l0 hc.h [o] (Qxu l0 ds Zs B prA hc o i acc) some=some S1∧Qn7 n ds Zs hc o i acc S1=some g)∧TrC hs l (i+1) (acc++[g]) acc2
 | _,_,_,_,_=>False
end
section
variable {R:Type} {r:R} {Y:TX} {K:List Con} {n:Nat} {l0:List Oper} {ds:List Nat} {Zs:List (Nat×Ob)} {B:List En} {prA:List Nat}
theorem Qym{acc:List EC}{t:Nat}{b:Bool}(h:Qp5 acc t=some (.d .bool b)):Jb0 acc t b=acc:=by
 induction acc with
 | nil=>rfl
 | cons g l ih =>
  simp only[Qp5]at h;simp only[Jb0];cases hb:(Nat.beq g.d t&&g.has)with
  | true =>
   rw[hb]at h;simp only[cond_true,Option.some.injEq]at h;obtain⟨gd,gv,gh,gu⟩:=g;grind
  | false =>
   rw[hb]at h;grind
theorem Qwg:∀{ht:HT} {l:List Oper} {i:Nat} {hs:List HD} {acc:List EC} {k:Hn→List HD→List EC→Option R},Qxv Y K n l0 ds Zs B prA ht l i hs acc k=some r →
  ∃h hs2 acc2,k h (hs++hs2) (acc++acc2)=some r∧TrC Y K n l0 ds Zs B prA hs2 l i acc acc2∧∀x∈Wp hs2,x∈N1 ht
 | .tl h,[],i,hs,acc,k,hr=>⟨h,[],[],by grind [Qxv],trivial,by simp[Wp]⟩
 | .tl h,_::_,i,hs,acc,k,hr=>by simp[Qxv]at hr
 | .op hc t,[],i,hs,acc,k,hr=>by simp[Qxv]at hr
 | .op hc t,o::l,i,hs,acc,k,hr=>by
  simp only[Qxv]at hr;obtain⟨S1,h1,h2⟩:=Qx0 hr;split at h1
  ·rename_i g hg
   obtain⟨h,hs2,acc2,h3,h4,h5⟩:=Qwg h1;refine⟨h,hc::hs2,g::acc2,by simpa using h3,⟨⟨S1,h2,hg⟩,h4⟩,fun x hx=>?_⟩;rcases QZ.1 hx with hx | hx
   ·exact List.mem_append_left _ hx
   ·exact List.mem_append_right _ (h5 x hx)
  ·cases h1
 | .so t a b,l,i,hs,acc,k,hr=>by
  simp only[Qxv]at hr;split at hr
  ·rename_i v hv
   cases v with
   | true =>
    rw[if_pos rfl,Qym hv]at hr;obtain⟨h,hs2,acc2,h3,h4,h5⟩:=Qwg hr;exact⟨h,hs2,acc2,h3,h4,fun x hx=>List.mem_append_left _ (h5 x hx)⟩
   | false =>
    rw[if_neg (by simp),Qym hv]at hr;obtain⟨h,hs2,acc2,h3,h4,h5⟩:=Qwg hr;exact⟨h,hs2,acc2,h3,h4,fun x hx=>List.mem_append_right _ (h5 x hx)⟩
  ·cases hr
theorem TrC.get:∀{hs:List HD} {l:List Oper} {i:Nat} {acc acc2:List EC},TrC Y K n l0 ds Zs B prA hs l i acc acc2→acc2.length=l.length∧hs.length=l.length∧∀(j:Nat) o,l[j]?=some o→∃g hc S1,acc2[j]?=some g∧hs[j]?=some hc ∧
  Vk (R:=XS) Y K n l0 hc.h [o] (Qxu l0 ds Zs B prA hc o (i+j) (acc++acc2.take j)) some=some S1∧Qn7 n ds Zs hc o (i+j) (acc++acc2.take j) S1=some g
 | [],[],i,acc,[],_=>⟨rfl,rfl,by simp⟩
 | [],[],i,acc,_::_,h=>h.elim
 | [],_::_,i,acc,_,h=>by simp[TrC]at h
 | _::_,[],i,acc,_,h=>by simp[TrC]at h
 | _::_,_::_,i,acc,[],h=>by simp[TrC]at h
 | hc::hs,o::l,i,acc,g::acc2,h=>by
  obtain⟨⟨S1,q1,q2⟩,h0⟩:=h;obtain⟨h2,h2',h3⟩:=TrC.get h0;refine⟨by simp[h2],by simp[h2'],fun j o' ho=>?_⟩;cases j with
  | zero =>
   grind
  | succ j =>
   grind
end
end Gx

/- A region of open order by ordinary steps. -/
namespace Gx
open Go Go.RowKit Gd
theorem Tm{n:Nat}{ds:List Nat}{Zs:List (Nat×Ob)}{hc:HD}{o:Oper}{i:Nat}{acc:List EC}{S1:XS}{g:EC}(h:Qn7 n ds Zs hc o i acc S1=some g) :
  Gn (Qnd hc.tch Zs acc++Qnd hc.ro Zs acc)=true∧Em hc.nm (Jq S1.mem)=true∧(g.ups=(hc.tch++hc.bs).map fun id=>(id,Qk S1.mem id))∧ds.getD i 0=g.d∧Em hc.nm (Jk g.av)=true∧(∀d,o.dst=some d→d=g.d∧d<n)∧(g.has=true→∃cs,(⟨g.d,cs,g.av⟩:En)∈S1.env∧cs=[])∧(o.dst=none→n≤1000000000→n≤g.d):=by
 unfold Qn7 at h;obtain⟨hb,h⟩:=bvT h;simp only[QQ]at hb;split at h
 ·rename_i d hd
  split at h
  ·rename_i t av hl
   obtain⟨hb2,h⟩:=bvT h;simp only[QQ]at hb2;simp only[Option.some.injEq]at h;subst h;obtain⟨hm,ht⟩:=Kl hl;simp_all
  ·cases h
 ·rename_i hd
  obtain⟨hb2,h⟩:=bvT h;simp only[Option.some.injEq]at h;subst h;exact⟨hb.1,hb.2,rfl,Nat.eq_of_beq_eq_true hb2,(by trivial),(fun d' hd'=>by rw[hd]at hd'; cases hd'),(fun h=>by cases h),fun _ hn=>by grind⟩
theorem Qjl:∀{l m:List (Nat×Ob)} {i:Nat},i∈Jq (l++m)→i∈Jq l∨i∈Jq m
 | [],m,i,h=>.inr h
 | (k,ob)::l,m,i,h=>by
  have key:∀{xs:List Nat},i∈xs++Jq (l++m)→i∈xs++Jq l∨i∈Jq m:=fun {xs} h=>by
   rcases QZ.1 h with h | h
   ·grind
   ·exact(Qjl h).imp (List.mem_append_right _) id
  cases ob with
  | var t c=>grind [Jk,Jq,id]
  | mapC a b xs hole =>
   cases hole with
   | none=>exact key (xs:=[k]) (by simpa[Jq]using h) |>.imp (by simp[Jq]) id
   | some q=>exact key (xs:=[k,q.2]) (by grind [Jq]) |>.imp (by simp[Jq]) id
  | _=>exact key (xs:=[k]) (by simpa[Jq]using h) |>.imp (by simp[Jq]) id
theorem Qyn{f:Nat→Option Ob}{i:Nat}:∀{ids:List Nat},i∈Jq (ids.filterMap fun id=>Xh id (f id))→∃id∈ids,∃ob,f id=some ob∧i∈Jq [(id,ob)]
 | [],h=>by cases h
 | id::ids,h=>by
  simp only[JB]at h;cases hf:f id with
  | none =>
   rw[hf]at h;obtain⟨id',h1,ob,h2,h3⟩:=Qyn (ids:=ids) h;grind
  | some ob =>
   rw[hf]at h;rcases Qjl (l:=[(id,ob)]) h with h | h
   ·grind
   ·obtain⟨id',h1,ob',h2,h3⟩:=Qyn (ids:=ids) h
    grind
theorem Q3s{M:List (Nat×Ob)}{id i:Nat}{ob:Ob}:Qk M id=some ob→i∈Jq [(id,ob)]→i∈Jq M:=by
 intro h hi;obtain⟨l1,l2,e,w1,w2⟩:=J8 h;rw[e];clear e h w1 w2
 induction l1 with
 | nil =>
  have key:∀{xs ys:List Nat},i∈xs++[]→i∈xs++ys:=fun h=>List.mem_append_left _ (by simpa using h);cases ob with
  | var t c=>have:=key (xs:=id::Jk c) (ys:=Jq l2) (by grind [Jq]); grind [Jq]
  | mapC a b xs hole =>
   cases hole with
   | none=>have:=key (xs:=[id]) (ys:=Jq l2) (by simp_all [Jq]); simp_all [Jq]
   | some q=>have:=key (xs:=[id,q.2]) (ys:=Jq l2) (by grind [Jq]); grind [Jq]
  | _=>have:=key (xs:=[id]) (ys:=Jq l2) (by simpa[Jq]using hi); grind [Jq]
 | cons q l ih =>
  obtain⟨k,x⟩:=q;cases x with
  | var t c=>grind [Jq,List.mem_append_right]
  | mapC a b xs hole =>
   cases hole with
   | none=>simp_all [QD,Jq]
   | some q=>grind [Jq]
  | _=>grind [Jq]
theorem Jcr{E:Nat→Bool}{id:Nat}{ob:Ob}:∀{l:List EC} {j:Nat} {c:Option Ob},Y6 E id l j c=some ob→c=some ob∨∃(k:Nat) (g:EC),l[k]?=some g∧E (j+k)=true∧Qt4 g.ups id=some (some ob)
 | [],j,c,h=>.inl h
 | g0::l,j,c,h=>by
  simp only[Y6]at h;rcases Jcr h with h1 | ⟨k,g,h1,h2,h3⟩
  ·cases hE:E j with
   | false=>rw[hE]at h1; exact .inl h1
   | true =>
    rw[hE]at h1;simp only[cond_true,upC]at h1;cases hl:Qt4 g0.ups id with
    | none=>rw[hl]at h1; exact .inl h1
    | some x=>rw[hl]at h1; simp only at h1; subst h1; exact .inr ⟨0,g0,rfl,hE,hl⟩
  ·exact .inr ⟨k+1,g,by simpa using h1,by rw[show j+(k+1)=j+1+k by omega]; exact h2,h3⟩
end Gx

/- A region of open order by ordinary steps: sound. -/
namespace Gx
open Go Go.RowKit Gd
theorem Q3t:∀{hs:List HD} {i:Nat},(∃hc∈hs,i∈hc.bs)→i∈Wp hs
 | [],i,⟨_,h,_⟩=>by cases h
 | h::l,i,⟨hc,hm,hi⟩=>by
  rcases QX.1 hm with rfl | hm
  ·exact List.mem_append_left _ hi
  ·exact List.mem_append_right _ (Q3t ⟨hc,hm,hi⟩)
theorem Jip{l0:List Oper}{hs:List HD}(h:J7y l0 hs=true){i j:Nat}{hi hj:HD}(h1:hs[i]?=some hi)(h2:hs[j]?=some hj)(hji:j<i):Qp6 l0 i j hi hj=true:=by
 have hil:=(List.getElem?_eq_some_iff.1 h1).1;have:=QR.1 (QR.1 h i (JU.2 hil)) j (JU.2 hji);rw[h1,h2]at this;exact this
theorem J77{l0:List Oper}{hs:List HD}(h:nmB l0 hs=true){i j:Nat}{hi hj:HD}(h1:hs[i]?=some hi)(h2:hs[j]?=some hj)(hji:i≠j):Qhm hi.bs hj.nm=true∨If l0 l0.length j i=true:=by
 have hil:=(List.getElem?_eq_some_iff.1 h1).1;have hjl:=(List.getElem?_eq_some_iff.1 h2).1;have:=QR.1 (QR.1 h i (JU.2 hil)) j (JU.2 hjl);rw[h1,h2]at this;simp_all
theorem Q3u{m:List (Nat×Ob)}{i:Nat}:∀{l:List (Nat×Ob)},i∈Jq l→i∈Jq (l++m)
 | [],h=>by cases h
 | (k,x)::l,h=>by
  have key:∀{xs:List Nat},i∈xs++Jq l→i∈xs++Jq (l++m):=fun {xs} h=>by
   rcases QZ.1 h with h | h
   ·grind
   ·exact List.mem_append_right _ (Q3u h)
  cases x with
  | var t c=>have:=key (xs:=k::Jk c) (by grind [Jq]); grind [Jq]
  | mapC a b xs hole =>
   cases hole with
   | none=>have:=key (xs:=[k]) (by simpa[Jq]using h); simp_all [Jq]
   | some q=>have:=key (xs:=[k,q.2]) (by grind [Jq]); grind [Jq]
  | _=>have:=key (xs:=[k]) (by simpa[Jq]using h); grind [Jq]
theorem Qyo{m:List (Nat×Ob)}{i:Nat}(h:i∈Jq m):∀{l:List (Nat×Ob)},i∈Jq (l++m)
 | []=>h
 | (k,x)::l=>by
  have ih:=Qyo h (l:=l);cases x with
  | var t c=>grind [Jq,List.mem_append_right]
  | mapC a b xs hole =>
   cases hole with
   | none=>simp_all [QD,Jq]
   | some q=>grind [Jq]
  | _=>grind [Jq]
theorem Qyp{E E':Nat→Bool}:∀{acc:List EC} {j:Nat},(∀k,k<acc.length→E (j+k)=E' (j+k))→Rm E acc j=Rm E' acc j
 | [],_,_=>rfl
 | g::l,j,h=>by
  have h0:=h 0 (by simp);rw[XQ]at h0
  have ih:Rm E l (j+1)=Rm E' l (j+1):=Qyp fun k hk=>by
   have:=h (k+1) (by grind)
   rwa[show j+(k+1)=j+1+k by omega]at this
  grind [Rm]
theorem Q3v:∀{acc:List EC} {j:Nat},Rm (fun _=>false) acc j=[]
 | [],_=>rfl
 | g::l,j=>by simp only[Rm,KQ,cond_false]; exact Q3v
theorem Jp5{Zs:List (Nat×Ob)}{bs:List Nat}{acc:List EC}(hN:(V7 Zs++bs).Nodup):Ik (V7 Zs++bs) Zs acc (fun _=>false)=Zs:=by
 unfold Ik;have h0:∀id c,Y6 (fun _=>false) id acc 0 c=c:=fun id c=>Tl fun _ _ _ _=>rfl;obtain⟨n1,n2,n3⟩:=List.nodup_append.1 hN;rw[JX]
 have e2:(bs.filterMap fun id=>Xh id (Y6 (fun _=>false) id acc 0 (Qk Zs id)))=[]:=by
  rw[ZK];intro d hd;rw[h0];cases hl:Qk Zs d with
  | none=>rfl
  | some ob=>exact absurd rfl (n3 d (Qjj (by rw[hl]; rfl)) d hd)
 rw[e2,QH];unfold V7;rw[List.filterMap_map];simp_all [Vp,KZ,Function.comp,Qn9,Xh]
section
variable {P:Program} {Y:TX} {X:Cx} {K:List Con} {n:Nat} {l0:List Oper} {ds:List Nat} {Zs Mb:List (Nat×Ob)} {B:List En} {prA prB:List Nat} {R:Type} {r:R} {β:Nat→Nat} {ρ:Nat→Value} {a:Act} {w:World}
theorem Jiq(hT:Jg P Y.T)(hmix:P.follows .mixedOrders=true)(hK:KsX P Y X K)(hX:X.n=n)(hr:X.res=[])(hp:X.pin=none){ht:HT}{p:Nat}(h:Rel X β ρ ⟨B,Zs++Mb⟩ a w)
  (hBt:∀e∈B,∀d∈ds,d<n→e.t≠d∧∀c∈e.cs,c.1≠d) (hBi:∀e∈B,∀i∈Jk e.av,i∈prB) (hMi:∀i∈Jq (Zs++Mb),i∈prB)
  (hb:Jlb l0 p ds=true) {k:Hn→List HD→List EC→Option R} (hs:Qxv Y K n l0 ds Zs B prA ht (l0.take p) 0 [] [] k=some r)
  (hch:∀h hs0 acc,k h hs0 acc=some r→Jzu l0 (V7 Zs) prB prA hs0=true) (hpA:∀i∈prB,i∈prA) {id:Nat} {Q:Exit→Act→World→Prop}
  (H:∀β' ρ' a' w' h hs0 acc,k h hs0 acc=some r→(∀(x:Nat),(∀hc∈hs0,x∉hc.wr)→∀g∈acc,K6 x g=false)→(∀x∈Wp hs0,x∈N1 ht)→agP prB β β' ρ ρ'→Rel X β' ρ' ⟨Rm Ei acc 0++B,Ik (V7 Zs++Wp hs0) Zs acc Ei++Mb⟩ a' w'→wpList P ⟨l0⟩ Q (l0.drop p) a' w'):(Code.region id ⟨l0⟩ true).wp P Q a w:=by
 unfold Jlb at hb;simp only[QQ]at hb;obtain⟨⟨⟨⟨hple,hlen⟩,hback⟩,hfin⟩,hndB⟩:=hb;have hnd:=Q2x hndB;have hpl:=QV hple;have hdl:=Nat.eq_of_beq_eq_true hlen;obtain⟨hn,hs0,acc,hk,htr,hbT⟩:=Qwg hs;simp only[QE]at hk;have hchk:=hch _ _ _ hk;unfold Jzu at hchk;simp only[QQ]at hchk;obtain⟨⟨⟨⟨⟨hcf,hnm⟩,hNb⟩,hapB⟩,hNAb⟩,hall0⟩:=hchk;have hN:=Qec hNb;have hNA:∀i∈V7 Zs++Wp hs0,i∈prA:=fun i hi=>Dm hNAb i hi;have hprB:∀i∈prB,i∈prA∧i∉Wp hs0:=fun i hi=>⟨hpA i hi,fun h2=>Pf hapB hi h2⟩
 have hal0:∀hc∈hs0,Tz hc.al=true∧Em (V7 Zs++Wp hs0) hc.al=true∧Em prA hc.nm=true:=fun hc hm=>by
  have:=QR.1 hall0 hc hm;grind
 have hNm:∀hc∈hs0,∀i∈hc.nm,i∈prA:=fun hc hm i hi=>Dm (hal0 hc hm).2.2 i hi;have hal:∀hc∈hs0,(hc.tch++hc.ro++hc.bs).Nodup∧∀i∈hc.tch++hc.ro++hc.bs,i∈V7 Zs++Wp hs0:=fun hc hm=>⟨Qec (hal0 hc hm).1,fun i hi=>Dm (hal0 hc hm).2.1 i hi⟩
 obtain⟨hal1,hal2,hall⟩:=htr.get;have hap:acc.length=p:=by rw[hal1,List.length_take]; omega
 simp only[QE,QW]at hall;have hget:∀(i:Nat) o,i<p→l0[i]?=some o→∃g hc S1,acc[i]?=some g∧hs0[i]?=some hc∧Vk (R:=XS) Y K n l0 hc.h [o] (Qxu l0 ds Zs B prA hc o i (acc.take i)) some=some S1∧Qn7 n ds Zs hc o i (acc.take i) S1=some g:=fun i o hi ho=>hall i o (by rw[JK,if_pos hi]; exact ho)
 have hof:∀(j:Nat) g,acc[j]?=some g→j<p∧∃o hc S1,l0[j]?=some o∧hs0[j]?=some hc∧Qn7 n ds Zs hc o j (acc.take j) S1=some g:=fun j g hg=>by
  have hj:j<p:=by have:=(List.getElem?_eq_some_iff.1 hg).1; omega
  obtain⟨g',hc,S1,q1,q2,_,q4⟩:=hget j l0[j] hj (List.getElem?_eq_getElem (by omega));rw[hg]at q1; grind
 have htch:∀(j:Nat) g hc x,acc[j]?=some g→hs0[j]?=some hc→K6 x g=true→x∈hc.wr:=fun j g hc x hg hh ht=>by
  obtain⟨_,o,hc',S1,_,q2,q3⟩:=hof j g hg;rw[hh]at q2; injection q2 with q2; subst q2
  unfold K6 at ht;rw[(Tm q3).2.2.1,Qed]at ht
  by_cases hm:x∈hc.tch++hc.bs
  ·exact hm
  simp_all [if_neg,B6]
 have hdsj:∀(j:Nat) g,acc[j]?=some g→ds[j]?=some g.d:=fun j g hg=>by
  obtain⟨hj,o,hc,S1,_,_,q3⟩:=hof j g hg;exact Jp0 (by omega) (Tm q3).2.2.2.1
 have hno:∀(x:Nat),(∀hc∈hs0,x∉hc.wr)→∀g∈acc,K6 x g=false:=fun x hx g hg=>by
  grind [List.getElem?_of_mem,K6,absurd,List.mem_of_getElem?]
 refine Jin (fun E a w=>∃β' ρ',agP prB β β' ρ ρ'∧Rel X β' ρ' ⟨Rm E acc 0++B,Ik (V7 Zs++Wp hs0) Zs acc E++Mb⟩ a w) hmix p (fun E E' a w hE ⟨β',ρ',q1,q2⟩=>⟨β',ρ',q1,?_⟩) hple hback hfin ⟨β,ρ,agP.refl _ _ _,?_⟩ (fun E i o a w Q' hip ho hcl hEi hpre ⟨β1,ρ1,hag,hR⟩ hQ=>?_) fun a' w' ⟨β',ρ',q1,q2⟩=>H β' ρ' a' w' hn hs0 acc hk hno hbT q1 q2
 ·have e1:Rm E acc 0=Rm E' acc 0:=Qyp fun k hk=>by rw[QW]; grind
  have e2:Ik (V7 Zs++Wp hs0) Zs acc E=Ik (V7 Zs++Wp hs0) Zs acc E':=Vp fun id _=>by
   rw[T7 (E:=E) (E':=E') fun k e hk _=>by rw[QW]; grind]
  rw[e1,e2]at q2;exact q2
 ·rw[Q3v,Jp5 hN]
  exact Sb.below h ((Below.refl _ _).drew)
 ·obtain⟨g,hc,S1,hg,hhc,hrun,hst⟩:=hget i o hip ho
  obtain⟨t1,t2,t3,t4,t5,t6,t7,t8⟩:=Tm hst;obtain⟨al1,al2⟩:=hal hc (List.mem_of_getElem? hhc)
  have hlateB:∀j,If l0 l0.length j i=true→E j=false:=fun j hbj=>by
   cases hE:E j with
   | false=>rfl
   | true =>
    have:E i=true:=Qd1 hcl l0.length j i hbj fun o' ho' e he hb'=>hcl j o' hE ho' e he hb';rw[hEi]at this; cases this
  have hearB:∀j,If l0 l0.length i j=true→E j=true:=fun j hbj=>Qd1 hcl l0.length i j hbj fun o' ho' e he hb'=>by rw[ho]at ho'; grind
  have hlate:∀id∈hc.tch++hc.ro++hc.bs,∀(j:Nat) g',acc[j]?=some g'→i<j→K6 id g'=true→E j=false:=fun id hm j g' hj hij ht=>by
   obtain⟨hjp,oj,hcj,S1j,p1,p2,p3⟩:=hof j g' hj;have hw:=htch j g' hcj id hj p2 ht;have hse:=Jip hcf p2 hhc hij;unfold Qp6 at hse;simp only[QQ,JZ]at hse;rcases hse.1 with⟨s1,s2⟩ | s1
   ·exfalso
    rcases QZ.1 hm with hm | hm
    ·rcases QZ.1 hm with hm | hm
     ·exact Pf s1 (List.mem_append_left _ hm:id∈hc.wr) (by
       rcases QZ.1 hw with q | q
       ·exact List.mem_append_left _ (List.mem_append_left _ q)
       ·exact List.mem_append_right _ q)
     grind [Pf]
    ·exact Pf s1 (List.mem_append_right _ hm:id∈hc.wr) (by
       rcases QZ.1 hw with q | q
       ·exact List.mem_append_left _ (List.mem_append_left _ q)
       ·exact List.mem_append_right _ q)
   grind
  have hearly:∀id∈hc.tch++hc.ro,∀(j:Nat) g',acc[j]?=some g'→j<i→K6 id g'=true→E j=true:=fun id hm j g' hj hij ht=>by
   obtain⟨hjp,oj,hcj,S1j,p1,p2,p3⟩:=hof j g' hj;have hw:=htch j g' hcj id hj p2 ht;have hse:=Jip hcf hhc p2 hij;unfold Qp6 at hse;simp only[QQ,JZ]at hse;rcases hse.1 with⟨s1,s2⟩ | s1
   ·exact(Pf s1 hw (List.mem_append_left _ hm)).elim
   grind
  have hbsA:∀id∈hc.bs,id∈Wp hs0:=fun id hm=>Q3t ⟨hc,List.mem_of_getElem? hhc,hm⟩
  have hbs:∀id∈hc.bs,Y6 E id acc 0 (Qk Zs id)=none:=fun id hm=>by
   have hz:Qk Zs id=none:=by
    cases hl:Qk Zs id with
    | none=>rfl
    | some ob=>exact absurd rfl ((List.nodup_append.1 hN).2.2 id (Qjj (by rw[hl]; rfl)) id (hbsA id hm))
   rw[hz];refine Tl fun j g' hj ht=>?_;rw[QW];rcases Nat.lt_trichotomy j i with hji | hji | hji
   ·obtain⟨hjp,oj,hcj,S1j,p1,p2,p3⟩:=hof j g' hj
    have hse:=Jip hcf hhc p2 hji;unfold Qp6 at hse;simp only[QQ]at hse;grind [Pf,id]
   ·rw[hji]; exact hEi
   grind
  have hprs:∀x∈prB,x∈Qp7 prA hc.bs:=fun x hx=>by
   obtain⟨q1,q2⟩:=hprB x hx;refine QB.2 ⟨q1,?_⟩;grind [Yr,absurd,Qqc]
  have hnmj:∀(j:Nat) g',acc[j]?=some g'→E j=true→∀hcj,hs0[j]?=some hcj→∀x∈hcj.nm,x∈Qp7 prA hc.bs:=fun j g' hj hE hcj p2 x hx=>by
   refine QB.2 ⟨hNm hcj (List.mem_of_getElem? p2) x hx,?_⟩;cases hm:Yr hc.bs x with
   | false=>rfl
   | true =>
    have hij:i≠j:=fun e=>by grind
    rcases J77 hnm hhc p2 hij with q | q
    ·grind [Pf,Qqc]
    grind
  refine Jun hK.2 hr hp (S1:=S1) (tch:=hc.tch) (ro:=hc.ro) (bs:=hc.bs) (pr:=Qp7 prA hc.bs) (Ve:=Qxt l0 ds i (acc.take i) B (Jid o++gTs l0 o)) hR hg hEi hN al1 al2 hearly hlate hbs (fun e he=>?_) t3 t7 (fun d hd=>(t6 d hd).1) t1 (fun e he=>?_) (fun x hx=>?_) (fun X1 Q1 x1 x2 x3 x4 x5 x6=>?_) fun β' ρ' a' w' y1 y2=>hQ a' w' ⟨β',ρ',agP.trans hag fun x hx=>y1 x (hprs x hx),y2⟩
  ·rcases Qee he with⟨v1,v2,v3⟩ | v1
   ·obtain⟨g',m1,m2,m3,m4⟩:=Q3r v2
    obtain⟨j,hj⟩:=List.getElem?_of_mem m1;rw[JK]at hj;split at hj
    ·rename_i hji
     have hd':=hdsj j g' hj
     have hix:ds.idxOf e.t=j:=by
      have hjl:=(List.getElem?_eq_some_iff.1 hd').1;have:=hnd.idxOf_getElem j hjl;rw[(List.getElem?_eq_some_iff.1 hd').2,m2]at this;exact this
     rw[hix]at v3
     have hEj:E j=true:=by
      simp only[Jks,ho]at v3;obtain⟨e',he',hb'⟩:=ZF.1 v3;simp only[QQ]at hb';rw[←Nat.eq_of_beq_eq_true hb'.2];grind
     refine List.mem_append_left _ ?_;have:=Q7a (E:=E) (acc:=acc) (j:=0) (k:=j) hj (by rw[QW]; exact hEj) m3;obtain⟨et,ecs,eav⟩:=e;grind
    ·cases hj
   grind
  ·rcases QZ.1 he with he | he
   ·obtain⟨j,g',q1,q2,q3,rfl⟩:=Qqh he
    rw[QW]at q2;obtain⟨hjp,oj,hcj,S1j,p1,p2,p3⟩:=hof j g' q1;refine⟨fun x hx=>hnmj j g' q1 q2 hcj p2 x (Dm (Tm p3).2.2.2.2.1 x hx),fun d hd=>⟨fun e=>?_,by simp⟩⟩;have e1:=(t6 d hd).1;have d1:=hdsj j g' q1;have d2:=hdsj i g hg
    have hij:j=i:=by
     obtain⟨b1,c1⟩:=List.getElem?_eq_some_iff.1 d1;obtain⟨b2,c2⟩:=List.getElem?_eq_some_iff.1 d2;have a1:=hnd.idxOf_getElem j b1;have a2:=hnd.idxOf_getElem i b2;rw[show ds[j]=ds[i]from c1.trans (e.trans (e1.trans c2.symm))]at a1;grind
    rw[hij,hEi]at q2; cases q2
   grind
  ·rcases Qjl hx with hx | hx
   ·obtain⟨id,h1,ob,h2,h3⟩:=Qyn hx
    rcases Jcr h2 with h6 | ⟨j,g',q1,q2,q3⟩
    ·exact hprs x (hMi x (Q3u (Q3s h6 h3)))
    ·rw[QW]at q2
     obtain⟨hjp,oj,hcj,S1j,p1,p2,p3⟩:=hof j g' q1;refine hnmj j g' q1 q2 hcj p2 x (Dm (Tm p3).2.1 x ?_);rw[(Tm p3).2.2.1,Qed]at q3;split at q3
     ·exact Q3s (Option.some.inj q3) h3
     ·cases q3
   grind [Qyo]
  ·have hflat:(Qxu l0 ds Zs B prA hc o i (acc.take i)).flat=⟨Qxt l0 ds i (acc.take i) B (Jid o++gTs l0 o),Qnd hc.tch Zs (acc.take i)++Qnd hc.ro Zs (acc.take i)⟩:=by
    simp only[XS.flat,Qxu,QH]
   have:=Uf hT (X:=X1) ⟨hK.1,x4⟩ (x1.trans hX) x2 (Q:=Q1) hc.h (l:=[o]) (rest:=[]) (S:=Qxu l0 ds Zs B prA hc o i (acc.take i)) (a:=a) (w:=w) (by rw[hflat]; exact x5) hrun fun β' ρ' S' a' w' k1 k2 k3=>by
    simp only[Option.some.injEq]at k1;subst k1;have kf:S'.fix=[]:=k2.fix;have km:S'.fixM=Qnd hc.ro Zs (acc.take i):=k2.fixM;refine x6 β' ρ' a' w' k2.ag ?_;have e:S'.flat=⟨S'.env,S'.mem++Qnd hc.ro Zs (acc.take i)⟩:=by simp only[XS.flat,kf,km,QH]
    rw[e]at k3;exact k3
   simpa using this
end
end Gx

/- A region of open order by ordinary steps, as the interpreter walks it. -/
namespace Gx
open Go Go.RowKit Gd
theorem Qjm{M:List (Nat×Ob)}:∀{B:List En} {e:En},e∈Jpg M B→∃e0∈B,e=⟨e0.t,e0.cs,Qct M e0.av⟩
 | [],e,h=>by cases h
 | e0::l,e,h=>by
  simp only[Jpg]at h;cases hb:Q61 M (Q26 e0.av)with
  | true =>
   rw[hb]at h;rcases QX.1 h with rfl | h
   ·grind
   ·obtain⟨e1,h1,h2⟩:=Qjm h
    grind
  | false =>
   rw[hb]at h;obtain⟨e1,h1,h2⟩:=Qjm h;grind
theorem J10{α:Type}(a b c d:List α):((a++b)++(c++d)).Perm ((a++c)++(b++d)):=by
 rw[List.append_assoc,List.append_assoc];refine List.Perm.append_left a ?_;rw[←List.append_assoc,←List.append_assoc];exact List.perm_append_comm.append_right d
theorem Q3w{E:Nat→Bool}{id:Nat}:∀{l:List EC} {j:Nat} {c:Option Ob},(∀g∈l,K6 id g=false)→Y6 E id l j c=c
 | [],j,c,_=>rfl
 | g::l,j,c,h=>by
  simp only[Y6];rw[Jio (h g (.head _))];rw[show(bif E j then c else c)=c by cases E j<;>rfl];exact Q3w fun g' hg=>h g' (.tail _ hg)
theorem Qjn{l m:List Nat}{Zs:List (Nat×Ob)}{acc:List EC}{E:Nat→Bool}:Ik (l++m) Zs acc E=Ik l Zs acc E++Ik m Zs acc E:=JX
theorem Q7b{l m:List (Nat×Ob)}:V7 (l++m)=V7 l++V7 m:=QC
section
variable {P:Program} {Y:TX} {X:Cx} {K:List Con} {n:Nat} {l0:List Oper} {ds:List Nat} {R:Type} {r:R} {β:Nat→Nat} {ρ:Nat→Value} {a:Act} {w:World}
theorem Jz4{B:List En}{M Z:List (Nat×Ob)}(h:Rel X β ρ ⟨B,M++Z⟩ a w):Rel X β ρ ⟨Jpg M B++B,M++Z⟩ a w:=by
 refine Rel.ofSb h rfl fun e he=>?_;rcases QZ.1 he with he | he
 ·obtain⟨e0,h0,rfl⟩:=Qjm he
  obtain⟨h1,h2⟩:=h.en h0;refine⟨fun hc=>?_,h2⟩;obtain⟨cs,q1,q2⟩:=h1 hc;exact⟨cs,by rw[q1,Jcm],Qf5 (fun id o ho=>h.mm id o (Jd ho)) q2⟩
 ·exact h.en he
theorem Jir(hT:Jg P Y.T)(hmix:P.follows .mixedOrders=true)(hK:KsX P Y X K)(hX:X.n=n)(hr:X.res=[])(hp:X.pin=none){S:XS}(h:Rel X β ρ S.flat a w){p:Nat}{zs zf:List Nat}{ht:HT}
  (hb:Jlb l0 p ds=true) (hfx:(ds.all fun d=>Qjf d S.fix)=true) {k:Hn→XS→Option R}
  (hs:dcI Y K n l0 p ds (Jv S.mem zs).2 (Jv S.fixM zf).2 (Jv S.mem zs).1 (Jv S.fixM zf).1 ht S (Qt3 S.env (ds++N1 ht)++S.fix) k=some r) {id:Nat} {Q:Exit→Act→World→Prop}
  (H:∀(β':Nat→Nat) (ρ':Nat→Value) (S':XS) (a':Act) (w':World) (h':Hn),k h' S'=some r→Vv S S' β β' ρ ρ'→Rel X β' ρ' S'.flat a' w'→wpList P ⟨l0⟩ Q (l0.drop p) a' w'):(Code.region id ⟨l0⟩ true).wp P Q a w:=by
 have hm:=Xj zs S.mem;have hf:=Xj zf S.fixM;revert hs hm hf;generalize (Jv S.mem zs).2=Z1;generalize (Jv S.mem zs).1=M1;generalize (Jv S.fixM zf).2=Z2;generalize (Jv S.fixM zf).1=F1;intro hs hm hf;unfold dcI dcR at hs;have hpm:S.flat.mem.Perm ((Z1++Z2)++(M1++F1)):=(hm.symm.append hf.symm).trans (J10 Z1 M1 Z2 F1)
 have hBm:∀e∈Qt3 S.env (ds++N1 ht)++S.fix,e∈S.flat.env∧∀d∈ds,e.t≠d∧∀c∈e.cs,c.1≠d:=fun e he=>by
  rcases QZ.1 he with he | he
  ·obtain⟨q1,q2⟩:=Q3q he
   exact⟨List.mem_append_left _ q1,fun d hd=>(q2 d (List.mem_append_left _ hd)).2⟩
  ·exact⟨List.mem_append_right _ he,fun d hd=>Qjh (QR.1 hfx d hd) e he⟩
 have h1:Rel X β ρ ⟨Qt3 S.env (ds++N1 ht)++S.fix,(M1++F1)++(Z1++Z2)⟩ a w:=Rel.permM (Rel.less h fun e he=>(hBm e he).1) (hpm.trans JY);have h2:=Rel.permM (Jz4 h1) (JY (l₁:=M1++F1) (l₂:=Z1++Z2))
 refine Jiq hT hmix hK hX hr hp (prB:=Qcs (Qt3 S.env (ds++N1 ht)++S.fix)++Jq ((Z1++Z2)++(M1++F1))++S.prot) (Mb:=M1++F1) h2 (fun e he d hd _=>?_) (fun e he i hi=>?_) (fun i hi=>List.mem_append_left _ (List.mem_append_right _ hi)) hb hs
  (fun hh hs0 acc hk=>?_) (fun i hi=>List.mem_append_left _ (List.mem_append_left _ hi)) fun β' ρ' a' w' hh hs0 acc hk hno hbT hag hR=>?_
 ·rcases QZ.1 he with he | he
  ·obtain⟨e0,q1,rfl⟩:=Qjm he
   grind
  grind
 ·refine List.mem_append_left _ (List.mem_append_left _ ?_)
  rcases QZ.1 he with he | he
  ·obtain⟨e0,q1,rfl⟩:=Qjm he
   exact Jcj q1 (Qqf hi)
  ·exact Jcj he hi
 ·have:=(bvT hk).1
  grind
 ·obtain⟨hck,hk⟩:=bvT hk
  simp only[QQ]at hck;obtain⟨hck,hkf⟩:=hck
  have hnd:(V7 (Z1++Z2)).Nodup:=by
   unfold Jzu at hck;simp only[QQ]at hck;grind [List.nodup_append,Qec]
  refine H β' ρ' _ a' w' hh hk ⟨rfl,rfl,rfl,fun i hi=>hag i (List.mem_append_right _ hi)⟩ ?_
  have e2:Ik (V7 Z2) (Z1++Z2) acc Ei=Z2:=by
   unfold Ik V7;rw[List.filterMap_map];refine(Vp (f:=some) fun q hq=>?_).trans KZ;have hq2:q.1∈V7 Z2:=QK.2 ⟨q,hq,rfl⟩;have hl:=Qn9 hnd q (List.mem_append_right _ hq);simp only[Function.comp,hl];rw[Q3w fun g hg=>hno q.1 (fun hc hm2 hw=>Pf (QR.1 hkf hc hm2) hw hq2) g hg];rfl
  have e1:Ik (V7 (Z1++Z2)++Wp hs0) (Z1++Z2) acc Ei=(Ik (V7 Z1) (Z1++Z2) acc Ei++Z2)++Ik (Wp hs0) (Z1++Z2) acc Ei:=by
   rw[Qjn,Q7b,Qjn,e2]
  have e3:Ik (V7 Z1++Wp hs0) (Z1++Z2) acc Ei=Ik (V7 Z1) (Z1++Z2) acc Ei++Ik (Wp hs0) (Z1++Z2) acc Ei:=Qjn;rw[e1]at hR
  have hperm:(((Ik (V7 Z1) (Z1++Z2) acc Ei++Z2)++Ik (Wp hs0) (Z1++Z2) acc Ei)++(M1++F1)).Perm ((Ik (V7 Z1++Wp hs0) (Z1++Z2) acc Ei++M1)++S.fixM):=by
   rw[e3]
   have p1:((Ik (V7 Z1) (Z1++Z2) acc Ei++Z2)++Ik (Wp hs0) (Z1++Z2) acc Ei).Perm ((Ik (V7 Z1) (Z1++Z2) acc Ei++Ik (Wp hs0) (Z1++Z2) acc Ei)++Z2):=by
    rw[List.append_assoc,List.append_assoc];exact List.Perm.append_left _ JY
   exact((p1.append_right _).trans (J10 _ _ _ _)).trans (List.Perm.append_left _ hf)
  refine Rel.less (Rel.permM hR hperm) fun e he=>?_;rcases QZ.1 he with he | he
  ·rcases QZ.1 he with he | he
   ·grind
   grind
  ·exact List.mem_append_right _ (List.mem_append_right _ (List.mem_append_right _ he))
end
end Gx

/- Ranges over maps: what is set aside in a round; the entries that are left. -/
namespace Gx
open Go Go.RowKit Gd
section
variable {P:Program} {Y:TX} {X:Cx} {β β':Nat→Nat} {ρ ρ':Nat→Value} {S S':St} {a a':Act} {w w':World} {Dx:List DF} {F:List TL}
def Qse(X:Cx)(β:Nat→Nat)(ρ:Nat→Value)(S:St)(Dx:List DF)(F:List TL)(a:Act)(w:World):Prop :=
 Sb (fun _=>0) X [] (Dx++S.env.map (enD β ρ a)) [] (Qq β ρ S.mem++F) a w
abbrev okF(X:Cx)(β:Nat→Nat)(ρ:Nat→Value)(mem:List (Nat×Ob))(F:List TL)(w:World):Ok:=Jr X.ok X.w.heap.size (fun _=>0) [] (Qq β ρ mem++F) w
theorem Qse.en(h:Qse X β ρ S Dx F a w){e:En}(he:e∈S.env):(enD β ρ a e).p (okF X β ρ S.mem F w) w:=Yq.1 h.dat _ (List.mem_append_right _ (QK.2 ⟨e,he,rfl⟩))
theorem Qse.act(h:Qse X β ρ S Dx F a w){env':List En}(hs:a'.tmps.size=a.tmps.size)(hd:a'.defers=a.defers)(hr:X.res=[])
  (he:∀e∈env',(enD β ρ a' e).p (okF X β ρ S.mem F w) w):Qse X β ρ ⟨env',S.mem⟩ Dx F a' w :=
 {sz:=hs.trans h.sz,df:=hd.trans h.df,fr:=by rw[hr]; simp,pn:=h.pn,tm:=by simp,bel:=h.bel,
  dat:=Yq.2 fun d hd=>by
   rcases QZ.1 hd with hd | hd
   ·exact Yq.1 h.dat _ (List.mem_append_left _ hd)
   grind,
  obj:=h.obj,own:=h.own,dHH:=h.dHH,dHO:=h.dHO,dOO:=h.dOO }
theorem Qse.en_put(h:Qse X β ρ S Dx F a w){d:Nat}(v:Value){e:En}(he:e∈Vw S.env d):(enD β ρ (a.put (some d) v) e).p (okF X β ρ S.mem F w) w:=by
 obtain⟨h1,h2,h3⟩:=Tu he;have hcc:J6 (a.put (some d) v) e.cs↔J6 a e.cs:=⟨fun hc c hm=>by rw[←Vy (h3 c hm) v]; exact hc c hm,fun hc c hm=>by rw[Vy (h3 c hm) v]; exact hc c hm⟩
 refine⟨fun hc=>?_,?_⟩
 ·obtain⟨cs,h4,h5⟩:=(h.en h1).1 (hcc.1 hc)
  grind [Qpr]
 ·rw[hcc,Qpr h2]; exact(h.en h1).2
theorem Qse.del(h:Qse X β ρ S Dx F a w)(hr:X.res=[]){d:Nat}(v:Value):Qse X β ρ ⟨Vw S.env d,S.mem⟩ Dx F (a.put (some d) v) w :=
 h.act (by simp[Act.put]) rfl hr fun e he=>h.en_put v he
theorem Qse.put0(h:Qse X β ρ S Dx F a w)(hr:X.res=[]){d:Nat}(hd:okD X d=true){x:AV}{c:List Value}(hx:cr β ρ (okF X β ρ S.mem F w) w false x c):Qse X β ρ ⟨⟨d,[],x⟩::Vw S.env d,S.mem⟩ Dx F (a.put (some d) (x.val c)) w:=by
 refine h.act (by simp[Act.put]) rfl hr fun e he=>?_;rcases QX.1 he with rfl | he
 ·refine⟨fun _=>⟨c,?_,hx⟩,.inl (Qi _)⟩
  rw[Qbx (Qlq hd)];simp[Act.put,h.sz,Qw1 hd]
 ·exact h.en_put _ he
end
end Gx

/- Ranges over maps: the rounds. -/
namespace Gx
open Go Go.RowKit Gd
section
section
variable {P:Program} {Y:TX} {X:Cx} {S:XS} {β β':Nat→Nat} {ρ ρ':Nat→Value} {a a':Act} {w w':World} {n N:Nat} {K:List Con}
variable {Q:Exit→Act→World→Prop} {R:Type} {r:R}
def Ex.exit:Ex→Exit
 | .n=>.normal
 | .x i=>.exit i
 | .r=>.ret
theorem Ex.beq_ok{a b:Ex}(h:Ex.beq a b=true):a=b:=by
 cases a<;>cases b<;>simp[Ex.beq]at h<;>first | rfl | (rw[h])
def COk(Q:Exit→Act→World→Prop)(X:Cx)(S0:XS)(β:Nat→Nat)(ρ:Nat→Value){R:Type}(k:Ex→XS→Option R)(r:R):Prop :=
 ∀(e:Ex) (β':Nat→Nat) (ρ':Nat→Value) (S':XS) (a':Act) (w':World),k e S'=some r→Vv S0 S' β β' ρ ρ'→Rel X β' ρ' S'.flat a' w'→Q e.exit a' w'
theorem COk.after{k:Ex→XS→Option R}(h:COk Q X S β ρ k r){S1:XS}{β1:Nat→Nat}{ρ1:Nat→Value}(hk:Vv S S1 β β1 ρ ρ1):COk Q X S1 β1 ρ1 k r :=
 fun e β' ρ' S' a' w' h1 h2 h3=>h e β' ρ' S' a' w' h1 (hk.trans h2) h3
theorem Qsf{k:Ex→XS→Option R}(ks ms:List Nat):∀{l:Exs} {e:Ex} {S':XS} {x:Jh8 l},inj l e S'=some x→Jh9 S ks ms k l x=some r →
  S'.fix=(S.ent ks ms).fix∧S'.fixM=(S.ent ks ms).fixM∧S'.prot=(S.ent ks ms).prot→Rel X β ρ S'.flat a w →
  ∃β' ρ' S1,k e (S.out ks ms S1)=some r∧agP S.prot β β' ρ ρ'∧Rel X β' ρ' (S.out ks ms S1).flat a w
 | [q],e,S',x,hi,ho,hk,h=>by
  simp only[inj]at hi;obtain⟨hb,hd⟩:=bvT hi;have:=Ex.beq_ok hb;subst this;obtain⟨β',ρ',h1,h2⟩:=Qcx (S0:=S.ent ks ms) h hk hd;rw[←Qjk]at h2;exact⟨β',ρ',enc q.2 x,ho,h1,h2⟩
 | q::q2::l,e,S',x,hi,ho,hk,h=>by
  simp only[inj]at hi;cases hb:Ex.beq q.1 e with
  | true =>
   rw[hb]at hi;have:=Ex.beq_ok hb;subst this;simp only[cond_true]at hi;split at hi
   ·rename_i y hd
    injection hi with hi; subst hi
    obtain⟨β',ρ',h1,h2⟩:=Qcx (S0:=S.ent ks ms) h hk hd;rw[←Qjk]at h2;exact⟨β',ρ',enc q.2 y,ho,h1,h2⟩
   ·cases hi
  | false =>
   rw[hb]at hi;simp only[cond_false]at hi;split at hi
   ·rename_i y hd
    injection hi with hi; subst hi
    exact Qsf ks ms hd ho hk h
   ·cases hi
end
variable {P:Program} {Y:TX} {X:Cx} {n N:Nat} {K:List Con} {β:Nat→Nat} {ρ:Nat→Value} {a:Act} {w:World} {Q:Exit→Act→World→Prop} {R:Type} {r:R} {k:Ex→XS→Option R} {S1:XS}
theorem isVal{t:Ty}{ok:Ok}{x:t.De}{v:Value}(h:isV (rt t) ok w x v):∃c,v=(AV.d t x).val c∧cr β ρ ok w false (.d t x) c:=by
 obtain⟨cs,h1,h2⟩:=Qlr h;exact⟨cs,h2,h1⟩
end
end Gx

/- Control. -/
namespace Gx
open Go Go.RowKit Gd
section
variable {P:Program} {Y:TX} {X:Cx} {S:XS} {β β':Nat→Nat} {ρ ρ':Nat→Value} {a a':Act} {w w':World} {n N:Nat} {K:List Con}
variable {Q:Exit→Act→World→Prop} {R:Type} {r:R}
theorem Wc(hT:Jg P Y.T)(hmix:P.follows .mixedOrders=true):∀{X:Cx} (hK:KsX P Y X K) (hX:X.n=n) (hr:X.res=[]) (hpin:X.pin=none) {R:Type} {r:R} (an:An) {c:Code} {S:XS} {β:Nat→Nat} {ρ:Nat→Value} {a:Act} {w:World} {k:Ex→XS→Option R} {Q:Exit→Act→World→Prop},
  Rel X β ρ S.flat a w→Xy Y K n N an c S k=some r→COk Q X S β ρ k r→c.wp P Q a w
 | X,hK,hX,hr,hpin,R,r,.nil,c,S,β,ρ,a,w,k,Q,h,hs,H=>by
  cases c<;>simp only[Xy]at hs<;>first | (cases hs; done) | skip
  ·exact wp_skip (H .n β ρ S a w hs (Vv.refl _ _ _) h)
  ·rename_i id; exact wp_exit (H (.x id) β ρ S a w hs (Vv.refl _ _ _) h)
  ·exact wp_label (H .n β ρ S a w hs (Vv.refl _ _ _) h)
  ·exact wp_ret (H .r β ρ S a w hs (Vv.refl _ _ _) h)
 | X,hK,hX,hr,hpin,R,r,.reg hn,c,S,β,ρ,a,w,k,Q,h,hs,H=>by
  cases c with
  | region id ops draw =>
   obtain⟨ops⟩:=ops;cases draw with
   | true=>simp[Xy]at hs
   | false =>
    simp only[Xy]at hs;refine wp_region_list ?_;have:=Uf hT hK hX hr (Q:=Q) hn (l:=ops) (rest:=[]) h hs fun β' ρ' S' a' w' h1 h2 h3=>H .n β' ρ' S' a' w' h1 h2 h3;grind
  | _=>simp[Xy]at hs
 | X,hK,hX,hr,hpin,R,r,.dr m g1 g2,c,S,β,ρ,a,w,k,Q,h,hs,H=>by
  cases c with
  | region id ops draw =>
   obtain⟨ops⟩:=ops;cases draw with
   | false=>simp[Xy]at hs
   | true =>
    simp only[Xy]at hs;obtain⟨hb,hs⟩:=bvT hs;have hm:P.follows .mixedOrders=true:=hmix;unfold Jtu at hb
    have tail:∀(β':Nat→Nat) (ρ':Nat→Value) (S':XS) (a':Act),Vk Y K n ops g2 (ops.drop m) S' (k .n)=some r→Vv S S' β β' ρ ρ'→Rel X β' ρ' S'.flat a' { w with drawn:=w.drawn+1 }→wpList P ⟨ops⟩ Q (ops.drop m) a' { w with drawn:=w.drawn+1 }:=by
     intro β' ρ' S' a' h1 h2 h3;have:=Uf hT hK hX hr (Q:=Q) g2 (l:=ops.drop m) (rest:=[]) h3 h1 fun β2 ρ2 S2 a2 w2 q1 q2 q3=>H .n β2 ρ2 S2 a2 w2 q1 (h2.trans q2) q3;grind
    cases hlt:Nat.blt m ops.length with
    | true =>
     rw[hlt]at hb;refine wp_region_still_tail m hm hb ?_;have:=Qf7 hT hX hr (w:={ w with drawn:=w.drawn+1 }) (Qs:=fun a'=>wpList P ⟨ops⟩ Q (ops.drop m) a' { w with drawn:=w.drawn+1 }) g1 (l:=ops.take m) (rest:=[]) h.drew hs fun β' ρ' S' a' h1 h2 h3=>tail β' ρ' S' a' h1 h2 h3;grind
    | false =>
     rw[hlt]at hb;simp only[cond_false,QQ]at hb;have hm2:=Nat.eq_of_beq_eq_true hb.1;refine wp_region_still_lit hm hb.2 ?_;have:=Qf7 hT hX hr (w:={ w with drawn:=w.drawn+1 }) (Qs:=fun a'=>wpList P ⟨ops⟩ Q (ops.drop m) a' { w with drawn:=w.drawn+1 }) g1 (l:=ops.take m) (rest:=[]) h.drew hs fun β' ρ' S' a' h1 h2 h3=>tail β' ρ' S' a' h1 h2 h3;rw[hm2]at this;simp only[List.take_length,QH,XM]at this;exact this
  | _=>simp[Xy]at hs
 | X,hK,hX,hr,hpin,R,r,.dc p ds zs zf ht,c,S,β,ρ,a,w,k,Q,h,hs,H=>by
  cases c with
  | region id ops draw =>
   obtain⟨ops⟩:=ops;cases draw with
   | false=>simp[Xy]at hs
   | true =>
    simp only[Xy]at hs;obtain⟨hb,hs⟩:=bvT hs;simp only[QQ]at hb;refine Jir hT hmix hK hX hr hpin h hb.1 hb.2 hs fun β' ρ' S' a' w' h' h1 h2 h3=>?_;have:=Uf hT hK hX hr (Q:=Q) h' (l:=ops.drop p) (rest:=[]) h3 h1 fun β2 ρ2 S2 a2 w2 q1 q2 q3=>H .n β2 ρ2 S2 a2 w2 q1 (h2.trans q2) q3;grind
  | _=>simp[Xy]at hs
 | X,hK,hX,hr,hpin,R,r,.ch t i x y,c,S,β,ρ,a,w,k,Q,h,hs,H=>by
  simp only[Xy]at hs;cases hb:Jtv S t i with
  | true=>rw[hb]at hs; exact Wc hT hmix hK hX hr hpin x h hs H
  | false=>rw[hb]at hs; exact Wc hT hmix hK hX hr hpin y h hs H
 | X,hK,hX,hr,hpin,R,r,.cn t x y,c,S,β,ρ,a,w,k,Q,h,hs,H=>by
  simp only[Xy]at hs;cases hb:Jtw S t with
  | true=>rw[hb]at hs; exact Wc hT hmix hK hX hr hpin x h hs H
  | false=>rw[hb]at hs; exact Wc hT hmix hK hX hr hpin y h hs H
 | X,hK,hX,hr,hpin,R,r,.gh g x,c,S,β,ρ,a,w,k,Q,h,hs,H=>by
  simp only[Xy]at hs;obtain⟨S1,β1,ρ1,q1,q2,q3⟩:=Qf6 g h hs;exact Wc hT hmix hK hX hr hpin x q3 q1 (H.after q2)
 | X,hK,hX,hr,hpin,R,r,.two x y,c,S,β,ρ,a,w,k,Q,h,hs,H=>by
  cases c<;>simp only[Xy]at hs<;>first | (cases hs; done) | skip
  ·rename_i c1 c2
   refine wp_seq (Wc hT hmix hK hX hr hpin x h hs fun e β' ρ' S' a' w' h1 h2 h3=>?_);cases e with
   | n=>exact Wc hT hmix hK hX hr hpin y h3 h1 (H.after h2)
   | x i=>exact H (.x i) β' ρ' S' a' w' h1 h2 h3
   | r=>exact H .r β' ρ' S' a' w' h1 h2 h3
  ·rename_i co c1 c2
   split at hs
   ·rename_i v hv
    obtain⟨cs,h1,h2⟩:=h.ev (Qi a) hv;have h2':cs=_:=h2;subst h2';have h1':a.eval co=.bool v:=h1;refine wp_cond_split h1' (fun hv=>?_) (fun hv=>?_)
    ·rw[if_pos hv]at hs
     exact Wc hT hmix hK hX hr hpin x h hs H
    ·rw[if_neg (by rw[hv]; simp)]at hs
     exact Wc hT hmix hK hX hr hpin y h hs H
   ·cases hs
 | X,hK,hX,hr,hpin,R,r,.un x,c,S,β,ρ,a,w,k,Q,h,hs,H=>by
  cases c<;>simp only[Xy]at hs<;>first | (cases hs; done) | skip
  ·rename_i id c1
   refine wp_block (Wc hT hmix hK hX hr hpin x h hs fun e β' ρ' S' a' w' h1 h2 h3=>?_);cases e with
   | n=>exact H .n β' ρ' S' a' w' h1 h2 h3
   | x i =>
    simp only at h1;show if i=id then Q .normal a' w' else Q (.exit i) a' w'
    cases hb:Nat.beq i id with
    | true =>
     rw[hb]at h1;rw[if_pos (Nat.eq_of_beq_eq_true hb)];exact H .n β' ρ' S' a' w' h1 h2 h3
    | false =>
     rw[hb]at h1;rw[if_neg (fun e=>by rw[e,Nat.beq_refl]at hb; cases hb)];exact H (.x i) β' ρ' S' a' w' h1 h2 h3
   | r=>exact H .r β' ρ' S' a' w' h1 h2 h3
  ·refine wp_scope_straight (Wc hT hmix hK hX hr hpin x h hs fun e β' ρ' S' a' w' h1 h2 h3=>?_)
   cases e with
   | n=>exact H .n β' ρ' S' a' w' h1 h2 h3
   | x i=>exact H (.x i) β' ρ' S' a' w' h1 h2 h3
   | r=>exact H .r β' ρ' S' a' w' h1 h2 h3
 | X,hK,hX,hr,hpin,R,r,.jn ks ms exs x,c,S,β,ρ,a,w,k,Q,h,hs,H=>by
  simp only[Xy]at hs;obtain⟨z,hz,ho⟩:=Y0 hs;refine Wc hT hmix hK hX hr hpin x (h.ent ks ms) hz fun e β' ρ' S' a' w' h1 h2 h3=>?_;obtain⟨β2,ρ2,S1,h4,h5,h6⟩:=Qsf ks ms h1 ho ⟨h2.fix,h2.fixM,h2.prot⟩ h3;refine H e β2 ρ2 _ a' w' h4 ⟨rfl,rfl,rfl,?_⟩ h6;exact agP.trans h2.ag h5
 | X,hK,hX,hr,hpin,R,r,.lp ks ms Γ exs x,c,S,β,ρ,a,w,k,Q,h,hs,H=>by
  cases c<;>simp only[Xy]at hs<;>first | (cases hs; done) | skip
  rename_i c1;split at hs
  ·rename_i s0 hs0
   obtain⟨z,hz,ho⟩:=Y0 hs;obtain⟨β1,ρ1,h1,h2⟩:=Qcx (S0:=S.ent ks ms) (h.ent ks ms) ⟨rfl,rfl,rfl⟩ hs0;refine Qpl (fun m a w=>∃s β' ρ',agP S.prot β β' ρ ρ'∧Rel X β' ρ' ((S.ent ks ms).re (enc Γ s)).flat a w∧Qf _ m s=some z) N ⟨s0,β1,ρ1,h1,h2,hz⟩ ?_;rintro m a1 w1 ⟨s,β',ρ',h3,h4,h5⟩;cases m with
   | zero=>simp[Qf]at h5
   | succ m =>
    simp only[Qf]at h5;obtain⟨q,hq,h5⟩:=Y0 h5;refine Wc hT hmix hK hX hr hpin x h4 hq fun e β2 ρ2 S' a' w' h6 h7 h8=>?_;cases e with
    | n =>
     simp only at h6;split at h6
     ·rename_i s' hd
      injection h6 with h6; subst h6
      obtain⟨β3,ρ3,h9,h10⟩:=Qcx (S0:=S.ent ks ms) h8 ⟨h7.fix,h7.fixM,h7.prot⟩ hd;exact⟨m,Nat.lt_succ_self m,s',β3,ρ3,(h3.trans h7.ag).trans h9,h10,h5⟩
     ·cases h6
    | x i =>
     simp only at h6;split at h6
     ·rename_i s' hd
      injection h6 with h6; subst h6
      injection h5 with h5; subst h5
      obtain⟨β3,ρ3,S1,h9,h10,h11⟩:=Qsf ks ms hd ho ⟨h7.fix,h7.fixM,h7.prot⟩ h8;exact H (.x i) β3 ρ3 _ a' w' h9 ⟨rfl,rfl,rfl,(h3.trans h7.ag).trans h10⟩ h11
     ·cases h6
    | r =>
     simp only at h6;split at h6
     ·rename_i s' hd
      injection h6 with h6; subst h6
      injection h5 with h5; subst h5
      obtain⟨β3,ρ3,S1,h9,h10,h11⟩:=Qsf ks ms hd ho ⟨h7.fix,h7.fixM,h7.prot⟩ h8;exact H .r β3 ρ3 _ a' w' h9 ⟨rfl,rfl,rfl,(h3.trans h7.ag).trans h10⟩ h11
     ·cases h6
  ·cases hs
theorem Jcs(p:Addr):(asAddr (.pointer (some p)):Sem Addr)=pure p:=rfl
theorem Q7c(hT:Jg P Y.T)(h:Rel X β ρ S.flat a w):∀{rs:List ResultVar} {i:Nat} {es:List En} (pre:List Value),pre.length=i→Jif Y S rs i=some es →
  ∃vs:List Value,vs.length=rs.length∧es.length=rs.length∧Sem.run P (rs.mapM fun r=>match r with | .tmp t=>(pure (a.tmps.getD t undef):Sem Value) | .cell ad t=>do loadVar t (←asAddr (a.tmps.getD ad undef))) w=.ok vs w ∧
   ∀e∈es,(enD β ρ ⟨(pre++vs).toArray,[]⟩ e).p (okR X β ρ S.flat.mem w) w
 | [],i,es,pre,_,he=>by simp[Jif]at he; subst he; exact⟨[],rfl,rfl,rfl,by simp⟩
 | .tmp t::rs,i,es,pre,hi,he=>by
  simp only[Jif]at he;split at he
  ·rename_i v r hv hr
   obtain⟨hbi,he⟩:=bvT he;simp at he; subst he;obtain⟨cs,h1,h2⟩:=h.ev (Qi a) hv;obtain⟨vs,h3,h4,h5,h6⟩:=Q7c hT h (rs:=rs) (i:=i+1) (pre++[a.tmps.getD t undef]) (by simp[hi]) hr;refine⟨a.tmps.getD t undef::vs,by simp[h3],by simp[h4],?_,fun e hm=>?_⟩
   ·rw[ZS]
    simp_all
   ·exact resCons hi hbi (h1▸rfl) h2 h6 e hm
  ·cases he
 | .cell ad t::rs,i,es,pre,hi,he=>by
  simp only[Jif]at he;split at he
  ·rename_i v r hv hr
   obtain⟨hbi,he⟩:=bvT he;simp at he; subst he;obtain⟨cs,h1,h2⟩:=Qp0 (P:=P) (o:=⟨none,.load t (.tmp ad),0, "",#[],none⟩) hT h.toW (Qi a) hv;obtain⟨vs,h3,h4,h5,h6⟩:=Q7c hT h (rs:=rs) (i:=i+1) (pre++[v.val cs]) (by simp[hi]) hr
   have hp:∃p,a.tmps.getD ad undef=.pointer (some p):=by
    simp only[Qpy]at hv;split at hv
    ·rename_i id path he' hx
     obtain⟨cs1,q1,q2⟩:=h.ev (Qi a) hx;have q2':cs1=_:=q2;subst q2';exact⟨_,q1⟩
    ·rename_i t' y he' hx
     obtain⟨cs1,q1,v0,q2,b,o,_,q3,_⟩:=h.ev (Qi a) hx;subst q2; subst q3;exact⟨_,q1⟩
    ·cases hv
   obtain⟨p,hp⟩:=hp
   have hl:(loadVar t p).run P w=.ok (v.val cs) w:=by
    have h1':=h1;unfold execOp at h1';have hp':a.eval (.tmp ad)=.pointer (some p):=hp;simp only[hp',Instr.loadAt,Instr.sureAddr,Sem.run_bind,Sem.run_pure,Result.andThen_ok]at h1';cases hr:(loadVar t p).run P w with
    | ok v1 w1 =>
     rw[hr]at h1';simp_all
    | _=>rw[hr]at h1'; simp_all
   refine⟨v.val cs::vs,by simp[h3],by simp[h4],?_,fun e hm=>?_⟩
   ·rw[ZS]
    simp_all [Jcs,Sem.run_bind,Result.andThen_ok]
   ·exact resCons hi hbi rfl h2 h6 e hm
  ·cases he
where
 resCons {i:Nat} {pre vs:List Value} {v0:Value} {v:AV} {cs:List Value} {r:List En} (hi:pre.length=i) (hbi:Nat.blt i 100000=true) (hv:v0=v.val cs) (h2:cr β ρ (okR X β ρ S.flat.mem w) w false v cs)
   (h6:∀e∈r,(enD β ρ ⟨(pre++[v0]++vs).toArray,[]⟩ e).p (okR X β ρ S.flat.mem w) w):∀e∈(⟨i,[],v⟩::r:List En),(enD β ρ ⟨(pre++v0::vs).toArray,[]⟩ e).p (okR X β ρ S.flat.mem w) w:=by
  intro e hm;have hl:pre++[v0]++vs=pre++(v0::vs):=by simp
  rw[hl]at h6;rcases QX.1 hm with rfl | hm
  ·refine⟨fun _=>⟨cs,?_,h2⟩,.inl (Qi _)⟩
   rw[Qbx hbi];grind
  ·exact h6 e hm
theorem Qsg:∀{l:List (Nat×Sk)} {i:Nat} {vs:List DV},T1 l i=true→∀(j:Nat) e,(Rk l vs).1[j]?=some e→e.t=i+j∧e.cs=[]
 | [],i,vs,_,j,e,h=>by simp[Rk]at h
 | (t,s)::l,i,vs,hk,j,e,h=>by
  simp only[T1,QQ]at hk;simp only[Rk]at h;cases j with
  | zero =>
   simp at h; subst h;simp_all
  | succ j =>
   obtain⟨h1,h2⟩:=Qsg hk.2 j e (by simpa using h);grind
theorem T8:∀{l:List (Nat×Sk)} {vs:List DV},(Rk l vs).1.length=l.length
 | [],vs=>rfl
 | (t,s)::l,vs=>by simp only[Rk,List.length_cons,T8]
theorem Jct{gl:List (Nat×Σ t:Ty,t.De)}{ok ok':Ok}{w:World}{β:Nat→Nat}{ρ:Nat→Value}{a:Act}(h:Zj gl ok w)(hk:∀b o,ok b o→ok' b o):∀e∈Qp8 gl,(enD β ρ a e).p ok' w:=by
 intro e he;obtain⟨q,hq,rfl⟩:=QK.1 he;refine⟨fun _=>⟨[.pointer (some ⟨q.1,0,none⟩)],Jh2 a q.1,_,rfl,(h q hq).1.weak hk⟩,.inl (Qi a)⟩
theorem F2{P:Program}{gl:List (Nat×Σ t:Ty,t.De)}{c:Con}(h:∀x,c.fn x=none):Qne P gl c:=fun ok w L β ρ x y vs _ _ _ _ _ hy=>by rw[h]at hy; cases hy
def S00(Y:TX)(c:Con)(x:c.Γ.De):XS:=⟨(enc c.Γ x).env,Qp8 Y.gl,wrM c.ro (enc c.Γ x).mem,rdM c.ro (enc c.Γ x).mem,c.Γ.mem.map Prod.fst⟩
theorem J11{ro:List Nat}:∀(M:List (Nat×Ob)),M.Perm (wrM ro M++rdM ro M)
 | []=>.nil
 | q::l=>by
  have ih:=J11 (ro:=ro) l;unfold wrM rdM at *;cases hm:Yr ro q.1 with
  | true =>
   simp only[XL,hm,Bool.not_true,QG,if_false,if_true];exact(List.Perm.cons q ih).trans List.perm_middle.symm
  | false =>
   simp_all
def J9k(Y:TX)(fn:Func)(c:Con):Ex→XS→Option (Qia c.Δ):=fun e S=>match e with
 | .x _=>none
 | .n=>fin Y fn c.Δ S
 | .r=>fin Y fn c.Δ S
theorem Jlo{fn:Func}{c:Con}(hku:T1 c.Γ.env 0=true)(hks:Nat.blt c.Γ.env.length 100000=true){ok:Ok}{w:World}{L:List Nat}{β:Nat→Nat}{ρ:Nat→Value}{x:c.Γ.De}{vs:List Value}{a:Act}(hok:∀b o,ok b o→b<w.heap.size)(hG:Zj Y.gl ok w)(hL:Qtu (Qq β ρ (enc c.Γ x).mem) L ok w)
  (hargs:∀e∈(enc c.Γ x).env,∃cs,vs[e.t]?=some (e.av.val cs)∧cr β ρ ok w false e.av cs) (h0:Sb (fun _=>0) (cxL L fn.ntmps ok w) (Ja3 vs 0) [] [] (Qq β ρ (enc c.Γ x).mem) a w):Rel (cxL L fn.ntmps ok w) β ρ (S00 Y c x).flat a w:=by
 have hp:=(J11 (ro:=c.ro) (enc c.Γ x).mem).map fun q=>Jb β ρ q.1 q.2;have hk0:∀b o,ok b o→okR (cxL L fn.ntmps ok w) β ρ (wrM c.ro (enc c.Γ x).mem++rdM c.ro (enc c.Γ x).mem) w b o:=fun b o hbo=>⟨.inl (.inl hbo),hok b o hbo,by simp,fun t ht hc=>(hL.1 t (hp.mem_iff.2 ht)).2.2 b o (t.cb hc) hbo⟩
 have hR:Rel (cxL L fn.ntmps ok w) β ρ (XS.flat (S00 Y c x)) a w:=by
  have e:XS.flat (S00 Y c x)=⟨(enc c.Γ x).env++Qp8 Y.gl,wrM c.ro (enc c.Γ x).mem++rdM c.ro (enc c.Γ x).mem⟩:=rfl;rw[e];replace h0:=Sb.perm h0 hp;refine Rel.ofSb h0 rfl fun e he=>?_;rcases QZ.1 he with he | he
  case inr=>grind [Jct]
  obtain⟨cs,h1,h2⟩:=hargs e he
  have hcs:e.cs=[]:=by
   grind [enc,Qsc]
  refine⟨fun _=>⟨cs,?_,Hr h2 hk0⟩,.inl (by rw[hcs]; exact Qi a)⟩
  have hz:∀{us:List Value} {i j:Nat} {v:Value},us[j]?=some v→(i+j,Gd.AV.v v)∈Ja3 us i:=by
   intro us
   induction us with
   | nil=>grind
   | cons u us ih =>
    intro i j v h;cases j with
    | zero=>simp at h; subst h; exact .head _
    | succ j =>
     have:=ih (i:=i+1) (j:=j) (v:=v) (by simpa using h);rw[show i+(j+1)=i+1+j by omega];exact .tail _ this
  have hsm:Nat.blt e.t 100000=true:=by
   obtain⟨j,hj⟩:=List.getElem?_of_mem he
   have hk2:e.t=0+j:=by
    grind [enc,Qsg,toL]
   have hjl:j<c.Γ.env.length:=by
    have h4:=(List.getElem?_eq_some_iff.1 hj).1;grind [enc,T8,toL]
   have:=QV hks;rw[hk2];exact Nat.ble_eq_true_of_le (by omega)
  have:=h0.tm _ (hz (i:=0) h1);rw[Qbx hsm];grind [R4]
 exact hR
theorem Jlp{es:List En}{S:XS}:∀{l:List Shp} {y:Qia l},Jtx es S l=some y→∃s x,T1 s.env 0=true∧es.length=s.env.length∧S.dec s=some x∧Qje l y=enc s x
 | [s],y,h=>by
  simp only[Jtx]at h;obtain⟨hb,h⟩:=bvT h;simp only[QQ]at hb;exact⟨s,y,hb.1,Nat.eq_of_beq_eq_true hb.2,h,rfl⟩
 | s::r::l,y,h=>by
  simp only[Jtx]at h;split at h
  ·rename_i x hx
   injection h with h
   subst h;obtain⟨hb,hx⟩:=bvT hx;simp only[QQ]at hb;exact⟨s,x,hb.1,Nat.eq_of_beq_eq_true hb.2,hx,rfl⟩
  ·split at h
   ·rename_i y0 hy
    injection h with h
    subst h;obtain⟨s0,x0,h1,h2,h3,h4⟩:=Jlp hy;exact⟨s0,x0,h1,h2,h3,h4⟩
   ·cases h
theorem Jlq(hT:Jg P Y.T){fn:Func}{c:Con}{ok:Ok}{w:World}{L:List Nat}{β:Nat→Nat}{ρ:Nat→Value}{x:c.Γ.De}{y:Qia c.Δ}{β':Nat→Nat}{ρ':Nat→Value}{S':XS}{a':Act}{w':World}
  (h2:Vv (S00 Y c x) S' β β' ρ ρ') (h3:Rel (cxL L fn.ntmps ok w) β' ρ' S'.flat a' w'):fin Y fn c.Δ S'=some y→bodyPost P fn (Q6k L w (Jcd c β ρ ok L w x y)) .ret a' w':=by
 intro hfin;unfold fin at hfin;split at hfin
 ·rename_i es hes
  obtain⟨hkb,hd⟩:=bvT hfin;have hksm:=QV hkb;obtain⟨s,x1,hku,hel,hd,henc⟩:=Jlp hd;obtain⟨rv,r1,r2,r3,r4⟩:=Q7c hT h3 [] rfl hes;simp only[QE]at r4
  have hRes:Rel { cxL L fn.ntmps ok w with n:=rv.length } β' ρ' (XS.flat ⟨es,[],S'.mem,S'.fixM,S'.prot⟩) ⟨rv.toArray,[]⟩ w':=by
   have e:XS.flat ⟨es,[],S'.mem,S'.fixM,S'.prot⟩=⟨es,S'.flat.mem⟩:=by simp[XS.flat]
   rw[e]
   have hSb:Sb (fun _=>0) { cxL L fn.ntmps ok w with n:=rv.length } [] [] [] (Qq β' ρ' S'.flat.mem) ⟨rv.toArray,[]⟩ w' :=
    { sz:=by simp,df:=rfl,fr:=by simp,pn:=by simp,tm:=by simp,bel:=h3.bel,dat:=trivial,obj:=by simp,own:=h3.own,dHH:=by simp,dHO:=by simp,dOO:=h3.dOO }
   exact Rel.ofSb hSb rfl fun e he=>r4 e he
  obtain⟨β2,ρ2,h4,h5⟩:=XS.dec_ok hRes hd;have hfm:S'.fixM=roM c x:=h2.fixM;have hpr:S'.prot=c.Γ.mem.map Prod.fst:=h2.prot;rw[hfm]at h5
  have hfacts:∀(j:Nat) e,(enc s x1).env[j]?=some e→∃cs,rv[j]?=some (e.av.val cs)∧cr β2 ρ2 (Jr (okL L ok) w.heap.size (fun _=>0) [] (Qq β2 ρ2 ((enc s x1).mem++roM c x)) w') w' false e.av cs:=by
   intro j e he
   have hk2:e.t=0+j∧e.cs=[]:=by
    grind [enc,Qsg,toL]
   have hen:=h5.en (List.mem_append_left _ (List.mem_of_getElem? he));obtain⟨cs,q1,q2⟩:=hen.1 (by rw[hk2.2]; exact Qi _);rw[hk2.1,QW]at q1
   have hjl:j<s.env.length:=by
    have h4:=(List.getElem?_eq_some_iff.1 he).1;grind [enc,T8,toL]
   rw[Qbx (Nat.ble_eq_true_of_le (by omega))]at q1;grind
  have hlenE:(enc s x1).env.length=rv.length:=by
   grind [enc,T8,toL]
  have hres:(results fn a'.tmps).run P w'=.ok (if h:rv.toArray.size=1 then rv.toArray[0]else .tuple rv.toArray) w':=by
   unfold results;rw[ZZ];simp only[Sem.run_bind,Sem.run_map,bind_pure_comp];exact congrArg (fun z:Result (List Value)=>(z.andThen fun a w'=>Result.ok a.toArray w').andThen fun a w'=>Result.ok (if h:a.size=1 then a[0]else Value.tuple a) w') r3
  refine⟨h3.df,_,hres,_,rfl,?_,h3.bel⟩;unfold Jcd;rw[henc];refine⟨β2,ρ2,?_,?_,?_,?_⟩
  ·exact agP.trans h2.ag (by rw[←hpr]; exact h4)
  ·by_cases hl1:rv.length=1
   ·obtain⟨e0,he0⟩:=ZI.1 (hlenE.trans hl1)
    obtain⟨cs,q1,q2⟩:=hfacts 0 e0 (by rw[he0]; rfl);have hra:Qd7 (enc s x1).env=e0.av:=by rw[he0]; rfl
    rw[hra];grind
   ·have hra:Qd7 (enc s x1).env=.tp (Q28 (enc s x1).env):=by
     unfold Qd7;grind
    rw[hra];refine⟨[.tuple rv.toArray],?_,rv,rfl,?_⟩
    ·rw[dif_neg (by simpa using hl1)]; rfl
    ·exact Jck (i:=0) hfacts hlenE.symm
  ·exact fun t ht=>h5.own t ht
  ·exact h5.dOO
 ·cases hfin
theorem Jz5(hT:Jg P Y.T){f:FuncId}{fn:Func}(hf:P.funcs[f]?=some fn){c:Con}(hcf:c.f=f){code:Code}(hb:fn.body=some code)(hble:Nat.ble c.Γ.env.length fn.ntmps=true)(hku:T1 c.Γ.env 0=true)(hks:Nat.blt c.Γ.env.length 100000=true)
  (hway:∀(x:c.Γ.De) (y:Qia c.Δ) (X:Cx) (β:Nat→Nat) (ρ:Nat→Value) (a:Act) (w:World) (Q:Exit→Act→World→Prop),c.fn x=some y→Zj Y.gl (okN X) X.w→X.n=fn.ntmps→X.res=[]→X.pin=none→Rel X β ρ (S00 Y c x).flat a w→COk Q X (S00 Y c x) β ρ (J9k Y fn c) y→code.wp P Q a w):Qne P Y.gl c:=by
 intro ok w L β ρ x y vs hok hG hlen hL hargs hy;rw[hcf];refine Joz (n:=fn.ntmps) (L:=L) (O:=Qq β ρ (enc c.Γ x).mem) (D:=[]) hok hf hb rfl (by rw[hlen]; exact hble) trivial hL fun a h0=>?_;have hR:=Jlo (Y:=Y) (fn:=fn) hku hks hok hG hL hargs h0;refine hway x y _ β ρ a w _ hy (hG.weak fun b o hbo=>⟨.inl hbo,fun hbl=>hL.2.2 b hbl |>.elim fun t ht=>(hL.1 t ht.1).2.2 b o ht.2 hbo,hok b o hbo⟩) rfl rfl rfl hR fun e β' ρ' S' a' w' h1 h2 h3=>?_;have key:=Jlq (y:=y) hT h2 h3;cases e with
 | n=>exact key h1
 | x i=>cases h1
 | r=>exact key h1
theorem Jlr(hT:Jg P Y.T)(hmix:P.follows .mixedOrders=true)(hK:Jcl P Y.gl K){f:FuncId}{fn:Func}(hf:P.funcs[f]?=some fn){an:An}{c:Con}(hcf:c.f=f)(hrun:∀x,c.fn x=Jph Y K N fn an c.ro c.Γ c.Δ x):Qne P Y.gl c:=by
 cases hb:fn.body with
 | none =>
  grind [F2,Jph]
 | some code =>
  by_cases hc:(Nat.ble c.Γ.env.length fn.ntmps&&(T1 c.Γ.env 0&&Nat.blt c.Γ.env.length 100000))=true
  ·have hc':=hc
   simp only[QQ]at hc';refine Jz5 hT hf hcf hb hc'.1 hc'.2.1 hc'.2.2 fun x y X β ρ a w Q hy hG hX hr hp hR H=>?_;rw[hrun]at hy;unfold Jph at hy;rw[hb,hc]at hy;exact Wc hT hmix ⟨hK,hG⟩ hX hr hp an hR hy H
  ·refine F2 fun x=>?_
   rw[hrun];unfold Jph;rw[hb];grind
end
end Gx
namespace Gx
open Go
theorem J78{P:Program}{gl:List (Nat×Σ t:Ty,t.De)}:Jcl P gl []:=fun _ h=>by cases h
theorem J6c{P:Program}{c:Con}{gl:List (Nat×Σ t:Ty,t.De)}{K:List Con}(h:Qne P gl c)(hr:Gd.Runs P c.f)(hk:Jcl P gl K):Jcl P gl (c::K):=fun d hd=>by
 rcases QX.1 hd with rfl | hd
 ·exact⟨h,hr⟩
 ·exact hk d hd
end Gx
