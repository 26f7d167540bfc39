/- One operation, with the rest of the state set aside. -/
import Derived.Test.YtjjpjagokgfbdaaGreatXO
import Derived.Test.YtjjpjagokgfbdaaGreatXH
import Derived.Maps.RangeRun
namespace Gx
open Go Go.RowKit Gd
set_option linter.unusedVariables false
set_option linter.unusedSimpArgs false
theorem T6{β:Nat→Nat}{ρ:Nat→Value}:∀{M:List (Nat×Ob)} {q:Nat×Ob},Vd M=true→q∈M→∀{b o:Nat},(Qw β ρ q.1 q.2).blks b→(Qw β ρ q.1 q.2).cov b o
 | (k,ob)::l,q,h,hq,b,o,hb=>by
  cases ob with
  | tail e t xs=>cases h
  | _ =>
   rcases QX.1 hq with rfl | hq
   ·exact hb
   ·exact T6 (M:=l) h hq hb
def Jme(o:Oper)(a a':Act):Prop:=∀t,o.dst≠some t→a'.tmps[t]?=a.tmps[t]?
def Jmf(o:Oper)(a:Act)(Q:Exit→Act→World→Prop):Exit→Act→World→Prop
 | .normal,a',w'=>Jme o a a'→Q .normal a' w'
 | e,a',w'=>Q e a' w'
theorem Lr(o:Oper)(a:Act)(v:Value):Jme o a (a.put o.dst v):=by
 intro t ht
 cases hd:o.dst with
 | none=>rfl
 | some d=>exact Y5 (fun e=>ht (by rw[hd,e])) v
theorem Q1g{P:Program}{ops:Array Oper}{Q:Exit→Act→World→Prop}{o:Oper}{a:Act}{w:World}(h:wpList P ops (Jmf o a Q) [o] a w):wpList P ops Q [o] a w:=by
 unfold wpList at h ⊢
 split at h
 ·rename_i hw
  rw[if_pos hw]
  rcases h with h | ⟨h1,h2⟩
  ·left
   unfold Oper.wp at h ⊢
   cases hr:(execOp a.eval o).run P w with
   | ok nx w' =>
    rw[hr]at h
    cases nx with
    | value v=>exact h (Lr o a v)
    | skip=>exact h (Lr o a undef)
    | defer d =>
     refine h fun t ht=>?_
     have:=Lr o { a with defers:=d::a.defers } undef t ht
     exact this
    | enter f args =>
     refine Calls.mono h fun e w' he=>?_
     cases e with
     | returned v=>exact he (Lr o a v)
     | panicked c=>exact he
     | outgrown=>exact he
    | row r args=>exact Rows.mono h fun v w' hv=>hv (Lr o a v)
    | _=>exact h.elim
   | halt hl w' =>
    rw[hr]at h
    cases hl with
    | panic v=>exact h
    | _=>exact h.elim
  ·exact .inr ⟨h1,h2⟩
 ·rename_i hw
  rw[if_neg hw]
  exact h (Lr o a undef)
open Classical in
noncomputable def Xq(n:Nat)(O:List TL):List Nat:=(List.range n).filter fun g=>decide (∃t∈O,t.blks g)
section
variable {P:Program} {Y:TX} {X:Cx} {β:Nat→Nat} {ρ:Nat→Value} {a:Act} {w:World} {ops:Array Oper} {Q:Exit→Act→World→Prop} {o:Oper}
theorem Jgh(hG:Vr Y.gl (okN X) X.w)(hr:X.res=[])(hp:X.pin=none){Ve Fe:List En}{Vm Fm:List (Nat×Ob)}{S1:St}{pr:List Nat}(h:Rel X β ρ ⟨Ve++Fe,Vm++Fm⟩ a w)(hV:Vd Vm=true)
    (hF:∀e∈Fe,(∀i∈Ja e.av,i∈pr)∧∀d,o.dst=some d→e.t≠d∧∀c∈e.cs,c.1≠d) (hFm:∀i∈Jb Fm,i∈pr)
    (hstep:∀(X1:Cx) (Q1:Exit→Act→World→Prop),X1.n=X.n→X1.res=[]→X1.pin=none→Vr Y.gl (okN X1) X1.w→Rel X1 β ρ ⟨Ve,Vm⟩ a w→(∀β' ρ' a' w',agP pr β β' ρ ρ'→Rel X1 β' ρ' S1 a' w'→Q1 .normal a' w')→wpList P ops Q1 [o] a w)
    (H:∀β' ρ' a' w',agP pr β β' ρ ρ'→Rel X β' ρ' ⟨S1.env++Fe,S1.mem++Fm⟩ a' w'→Q .normal a' w'):wpList P ops Q [o] a w:=by
  have eM:Qf β ρ (Vm++Fm)=Qf β ρ Vm++Qf β ρ Fm:=JK
  have hS:Sb (fun _=>0) X [] ((Ve++Fe).map (enD β ρ a)) [] (Qf β ρ Vm++Qf β ρ Fm) a w:=by rw[←eM]; exact h
  have hL1:∀t∈Qf β ρ Vm,∀g,t.blks g→g∈Xq w.heap.size (Qf β ρ Vm):=fun t ht g hg=>by
    unfold Xq
    exact JU.2 ⟨JT.2 (hS.olt (QZ _ ht) hg),by simp only[decide_eq_true_eq]; exact⟨t,ht,hg⟩⟩
  have hL2:∀g∈Xq w.heap.size (Qf β ρ Vm),∃t∈Qf β ρ Vm,t.blks g:=fun g hg=>by
    unfold Xq at hg
    have:=(JU.1 hg).2
    simpa only[decide_eq_true_eq]using this
  have hcov:∀t∈Qf β ρ Vm,∀b o,t.blks b→t.cov b o:=fun t ht b o hb=>by
    obtain⟨q,hq,rfl⟩:=QY.1 ht
    exact T6 hV hq hb
  have hk:∀b f,Je X.ok X.w.heap.size (fun _=>0) [] (Qf β ρ Vm++Qf β ρ Fm) w b f→Je (okL (Xq w.heap.size (Qf β ρ Vm)) (Je X.ok X.w.heap.size (fun _=>0) [] (Qf β ρ Vm++Qf β ρ Fm) w)) w.heap.size (fun _=>0) [] (Qf β ρ Vm) w b f :=
    fun b f hbo=>⟨.inl (.inl hbo),hbo.2.1,by simp,fun t ht hc=>hbo.2.2.2 t (QZ _ ht) hc⟩
  refine Q1g (hstep { cxL (Xq w.heap.size (Qf β ρ Vm)) X.n (Je X.ok X.w.heap.size (fun _=>0) [] (Qf β ρ Vm++Qf β ρ Fm) w) w with dfs:=X.dfs } (Jmf o a Q) rfl rfl rfl ?_ ?_ fun β' ρ' a' w' hag hR hsame=>?_)
  · exact(Lq hS hG).weak fun b f hbo=>⟨.inl hbo,fun hbl=>by
      obtain⟨t,ht,hg⟩:=hL2 b hbl
      exact hbo.2.2.2 t (QZ _ ht) (hcov t ht b f hg),hbo.2.1⟩
  · exact { sz:=hS.sz,df:=hS.df,fr:=by simp,pn:=by simp,tm:=by simp,bel:=Uc.refl _ _ _,obj:=by simp,dHH:=by simp,dHO:=by simp,
            dat:=Jf.2 fun x hx=>by
              obtain⟨e,he,rfl⟩:=QY.1 hx
              exact(enD β ρ a e).weak (Jf.1 hS.dat _ (QY.2 ⟨e,QZ _ he,rfl⟩)) hk,
            own:=fun t ht=>⟨t.weak (hS.own t (QZ _ ht)).1 hk,fun g hg=>.inr (hL1 t ht g hg)⟩,
            dOO:=(QM.1 hS.dOO).1 }
  · have hC:=Sb.callO (O1':=Qf β' ρ' S1.mem) hS hR.bel hL2 hcov (fun t ht=>⟨(hR.own t ht).1,fun g hg=>(hR.own t ht).2 g hg⟩) hR.dOO
    have hsim:K9 (Qf β ρ Fm) (Qf β' ρ' Fm):=Quj fun i hi=>hag i (hFm i hi)
    have hC2:=hC.simO ((K9.refl (Qf β' ρ' S1.mem)).append hsim)
    have hmem:Qf β' ρ' (S1.mem++Fm)=Qf β' ρ' S1.mem++Qf β' ρ' Fm:=JK
    have hC3:Sb (fun _=>0) X [] [] [] (Qf β' ρ' S1.mem++Qf β' ρ' Fm) a' w' :=
      { sz:=hR.sz,df:=hR.df,fr:=by rw[hr]; simp,pn:=by rw[hp]; simp,tm:=by simp,bel:=hC2.bel,dat:=trivial,obj:=by simp,own:=hC2.own,dHH:=by simp,dHO:=by simp,dOO:=hC2.dOO }
    refine H β' ρ' a' w' hag (Rel.ofSb hC3 hmem.symm fun e he=>?_)
    rcases QW.1 he with he | he
    · have h1:=Jf.1 hR.dat _ (QY.2 ⟨e,he,rfl⟩)
      refine(enD β' ρ' a' e).weak h1 fun b f hbf=>?_
      have h2:=Ru hS hR.bel.size hL2 b f hbf
      have h3:=((K9.refl (Qf β' ρ' S1.mem)).append hsim).ok b f h2
      unfold okR
      rw[hmem]
      exact h3
    · have h1:=Jf.1 hC2.dat _ (QY.2 ⟨e,QV _ he,rfl⟩)
      obtain⟨hi,hd⟩:=hF e he
      have ht:∀t,(∀d,o.dst=some d→t≠d)→a'.tmps[t]?=a.tmps[t]?:=fun t ht=>hsame t fun hd=>ht t hd rfl
      have hcc:Jt a' e.cs↔Jt a e.cs:=⟨fun hc c hm=>by rw[←ht _ fun d hd'=>(hd d hd').2 c hm]; exact hc c hm,fun hc c hm=>by rw[ht _ fun d hd'=>(hd d hd').2 c hm]; exact hc c hm⟩
      have hrd:rd a' e.t=rd a e.t:=by unfold rd; rw[ht _ fun d hd'=>(hd d hd').1]
      refine⟨fun hc=>?_,?_⟩
      · obtain⟨cs,q1,q2⟩:=h1.1 (hcc.1 hc)
        refine⟨cs,by rw[hrd]; exact q1,?_⟩
        unfold okR
        rw[hmem]
        exact W9 (fun i hm=>hag i (hi i hm)) q2
      · rw[hcc,hrd]; exact h1.2
end
end Gx

/- Regions of open order by ordinary steps: what is found, what is one's own. -/
namespace Gx
open Go Go.RowKit Gd
set_option linter.unusedVariables false
set_option linter.unusedSimpArgs false
theorem Q52{id:Nat}{e:EC}{c:Option Ob}(h:Zi id e=false):upC id e c=c:=by
 unfold Zi at h
 unfold upC
 cases hl:Ql8 e.ups id with
 | none=>rfl
 | some x=>rw[hl]at h; cases h
theorem N8{E:Nat→Bool}{id:Nat}:∀{l1 l2:List EC} {j:Nat} {c:Option Ob},Yr E id (l1++l2) j c=Yr E id l2 (j+l1.length) (Yr E id l1 j c)
 | [],l2,j,c=>rfl
 | e::l1,l2,j,c=>by
  simp only[QA,Yr,N8 (l1:=l1),JI]
  rw[show j+1+l1.length=j+(l1.length+1) by omega]
theorem L9{E E':Nat→Bool}{id:Nat}:∀{l:List EC} {j:Nat} {c:Option Ob},(∀(k:Nat) e,l[k]?=some e→Zi id e=true→E (j+k)=E' (j+k))→Yr E id l j c=Yr E' id l j c
 | [],j,c,_=>rfl
 | e0::l,j,c,h=>by
  simp only[Yr]
  have e:(bif E j then upC id e0 c else c)=(bif E' j then upC id e0 c else c):=by
   cases ht:Zi id e0 with
   | true=>rw[show E j=E' j from h 0 _ rfl ht]
   | false=>rw[Q52 ht]; cases E j<;>cases E' j<;>rfl
  rw[e]
  exact L9 fun k g hk ht=>by
   have:=h (k+1) g (by simpa using hk) ht
   rw[show j+1+k=j+(k+1) by omega]; exact this
theorem Ls{E:Nat→Bool}{id:Nat}:∀{l:List EC} {j:Nat} {c:Option Ob},(∀(k:Nat) e,l[k]?=some e→Zi id e=true→E (j+k)=false)→Yr E id l j c=c
 | [],j,c,_=>rfl
 | e0::l,j,c,h=>by
  simp only[Yr]
  have e:(bif E j then upC id e0 c else c)=c:=by
   cases ht:Zi id e0 with
   | true=>rw[show E j=false from h 0 _ rfl ht]; rfl
   | false=>rw[Q52 ht]; cases E j<;>rfl
  rw[e]
  exact Ls fun k g hk ht=>by
   have:=h (k+1) g (by simpa using hk) ht
   rw[show j+1+k=j+(k+1) by omega]; exact this
theorem Q1h{acc:List EC}{i:Nat}{g:EC}(hg:acc[i]?=some g):acc=acc.take i++g::acc.drop (i+1)∧(acc.take i).length=i:=by
 have hi:i<acc.length:=(QK.1 hg).1
 rw[QU hi]at hg
 injection hg with hg
 refine⟨?_,by rw[QO]; omega⟩
 rw[←hg,←XH hi,JW]
section
variable {E:Nat→Bool} {acc:List EC} {i id:Nat} {g:EC} {c:Option Ob}
theorem Jgi(hg:acc[i]?=some g)(hi:E i=false)(he:∀(j:Nat) g',acc[j]?=some g'→j<i→Zi id g'=true→E j=true)(hl:∀(j:Nat) g',acc[j]?=some g'→i<j→Zi id g'=true→E j=false) :
  Yr E id acc 0 c=Yr Wz id (acc.take i) 0 c:=by
 obtain⟨e1,e2⟩:=Q1h hg
 have e3:Yr E id acc 0 c=Yr E id (acc.take i++g::acc.drop (i+1)) 0 c:=by rw[←e1]
 rw[e3,N8,e2,QE]
 simp only[Yr,hi,cond_false]
 rw[Ls fun k g' hk ht=>hl (i+1+k) g' (by rw[JZ]at hk; exact hk) (by omega) ht]
 refine L9 fun k g' hk ht=>?_
 rw[JD]at hk
 split at hk
 ·rw[QE,he k g' hk (by omega) ht]; rfl
 ·cases hk
theorem Jgj(hg:acc[i]?=some g)(hi:E i=false)(hl:∀(j:Nat) g',acc[j]?=some g'→i<j→Zi id g'=true→E j=false) :
  Yr (T2 E i) id acc 0 c=upC id g (Yr E id acc 0 c):=by
 obtain⟨e1,e2⟩:=Q1h hg
 have e3:∀E,Yr E id acc 0 c=Yr E id (acc.take i++g::acc.drop (i+1)) 0 c:=fun E=>by rw[←e1]
 rw[e3,e3,N8,N8,e2,QE]
 simp only[Yr,hi,cond_false,BEq.rfl,Bool.true_or,cond_true]
 have h1:Yr (T2 E i) id (acc.take i) 0 c=Yr E id (acc.take i) 0 c:=L9 fun k g' hk ht=>by
  have:k<i:=by
   rw[JD]at hk
   split at hk
   ·assumption
   ·cases hk
  simp only[T2,QE]
  rw[show(k==i)=false by simp; omega]; rfl
 have h2:∀c',Yr (T2 E i) id (acc.drop (i+1)) (i+1) c'=c':=fun c'=>Ls fun k g' hk ht=>by
  simp only[T2]
  rw[show(i+1+k==i)=false by simp; omega]
  exact hl (i+1+k) g' (by rw[JZ]at hk; exact hk) (by omega) ht
 have h3:∀c',Yr E id (acc.drop (i+1)) (i+1) c'=c':=fun c'=>Ls fun k g' hk ht=>hl (i+1+k) g' (by rw[JZ]at hk; exact hk) (by omega) ht
 rw[h2,h3,h1]
 simp only[T2,BEq.rfl,Bool.true_or,cond_true]
theorem Jgk(hg:acc[i]?=some g)(ht:Zi id g=false):Yr (T2 E i) id acc 0 c=Yr E id acc 0 c :=
 L9 fun k g' hk ht'=>by
  rw[QE]
  by_cases e:k=i
  ·subst e
   rw[hg]at hk; injection hk with hk; subst hk
   rw[ht]at ht'; cases ht'
  ·simp only[T2]
   rw[show(k==i)=false by simp; omega]; rfl
theorem Qip{E:Nat→Bool}:∀{acc:List EC} {j:Nat} {e:En},e∈Ib E acc j→∃(k:Nat) (g:EC),acc[k]?=some g∧E (j+k)=true∧g.has=true∧e=⟨g.d,[],g.av⟩
 | [],j,e,h=>by cases h
 | g::l,j,e,h=>by
  simp only[Ib]at h
  cases hb:(E j&&g.has)with
  | true =>
   rw[hb]at h
   simp only[QQ]at hb
   rcases QX.1 h with rfl | h
   ·exact⟨0,g,rfl,hb.1,hb.2,rfl⟩
   ·obtain⟨k,g',h1,h2,h3,h4⟩:=Qip h
    exact⟨k+1,g',by simpa using h1,by rw[show j+(k+1)=j+1+k by omega]; exact h2,h3,h4⟩
  | false =>
   rw[hb]at h
   obtain⟨k,g',h1,h2,h3,h4⟩:=Qip h
   exact⟨k+1,g',by simpa using h1,by rw[show j+(k+1)=j+1+k by omega]; exact h2,h3,h4⟩
theorem Qxj{E:Nat→Bool}:∀{acc:List EC} {j k:Nat} {g:EC},acc[k]?=some g→E (j+k)=true→g.has=true→(⟨g.d,[],g.av⟩:En)∈Ib E acc j
 | [],j,k,g,h,_,_=>by simp at h
 | g0::l,j,0,g,h,h1,h2=>by
  simp at h; subst h
  simp only[Ib]
  rw[show(E j&&g0.has)=true by rw[show E j=true from h1,h2]; rfl]
  exact .head _
 | g0::l,j,k+1,g,h,h1,h2=>by
  have:=Qxj (acc:=l) (j:=j+1) (k:=k) (by simpa using h) (by rw[show j+1+k=j+(k+1) by omega]; exact h1) h2
  simp only[Ib]
  cases(E j&&g0.has)with
  | true=>exact .tail _ this
  | false=>exact this
end
theorem Jbw{ids:List Nat}:∀{names:List Nat},ids.Nodup→names.Nodup→(∀i∈ids,i∈names)→names.Perm (ids++names.filter fun i=>!Ya ids i):=by
 induction ids with
 | nil =>
  intro names _ _ _
  have:(names.filter fun i=>!Ya [] i)=names:=List.filter_eq_self.2 fun _ _=>rfl
  rw[this]
  exact List.Perm.refl _
 | cons x ids ih =>
  intro names hi hn hs
  have hi':=JA.1 hi
  obtain⟨l1,l2,rfl⟩:=List.append_of_mem (hs x (.head _))
  have hn2:(l1++l2).Nodup∧x∉l1++l2:=by
   have:=(List.perm_middle.nodup_iff (l₁:=l1++x::l2)).1 hn
   exact⟨(JA.1 this).2,(JA.1 this).1⟩
  have h1:=ih (names:=l1++l2) hi'.2 hn2.1 fun i him=>by
   have:=hs i (.tail _ him)
   rcases QW.1 this with h | h
   ·exact QZ _ h
   ·rcases QX.1 h with rfl | h
    ·exact absurd him hi'.1
    ·exact QV _ h
  have e:((l1++x::l2).filter fun i=>!Ya (x::ids) i)=(l1++l2).filter fun i=>!Ya ids i:=by
   have hf:∀l:List Nat,x∉l→(l.filter fun i=>!Ya (x::ids) i)=l.filter fun i=>!Ya ids i:=fun l hx=>by
    refine List.filter_congr fun i him=>?_
    have hne:x≠i:=fun e=>hx (e▸him)
    simp only[Ya,Jph hne,KI]
   rw[List.filter_append,XG]
   have hx0:(!Ya (x::ids) x)=false:=by simp[Ya,JY]
   rw[hx0]
   simp only[XY,if_false]
   rw[hf l1 fun h=>hn2.2 (QZ _ h),hf l2 fun h=>hn2.2 (QV _ h),List.filter_append]
  rw[e]
  exact XZ.trans (List.Perm.cons x h1)
end Gx

/- One operation of a region of open order, by an ordinary step. -/
namespace Gx
open Go Go.RowKit Gd
set_option linter.unusedVariables false
set_option linter.unusedSimpArgs false
theorem Qkk:∀{ids:List Nat} {M:List (Nat×Ob)},ids.Nodup→(Jm M ids).2=ids.filterMap fun t=>Zv t (Qe M t)
 | [],M,_=>rfl
 | t::ts,M,hn=>by
  have hn':=JA.1 hn
  simp only[Jm,XE]
  cases hl:Qe M t with
  | none=>simp only[Zv]; exact Qkk hn'.2
  | some o =>
   simp only[Zv]
   rw[Qkk (M:=Ju M t) hn'.2]
   congr 1
   exact Y0 fun j hj=>by rw[Qqa fun(e:j=t)=>hn'.1 (by rw[←e]; exact hj)]; cases Qe M j<;>rfl
theorem R2{f:Nat→Option Ob}{id:Nat}:∀{ids:List Nat},Ql8 (ids.map fun i=>(i,f i)) id=if id∈ids then some (f id)else none
 | []=>rfl
 | k::l=>by
  simp only[JV,Ql8]
  cases hb:Nat.beq k id with
  | true =>
   have:=QJ hb
   subst this
   simp
  | false =>
   have hne:id≠k:=fun e=>by subst e; simp[JY]at hb
   simp only[cond_false,R2 (ids:=l),QX,hne,false_or]
section
variable {P:Program} {Y:TX} {X:Cx} {β:Nat→Nat} {ρ:Nat→Value} {a:Act} {w:World} {ops:Array Oper} {Q:Exit→Act→World→Prop} {o:Oper}
theorem Jgl(hG:Vr Y.gl (okN X) X.w)(hr:X.res=[])(hp:X.pin=none){names:List Nat}{Zs Mb:List (Nat×Ob)}{acc:List EC}{E:Nat→Bool}{B Ve:List En}{i:Nat}{g:EC}{tch ro bs pr:List Nat}{S1:XS}
  (h:Rel X β ρ ⟨Ib E acc 0++B,Fz names Zs acc E++Mb⟩ a w) (hg:acc[i]?=some g) (hi:E i=false) (hnn:names.Nodup) (hnd:(tch++ro++bs).Nodup) (hsub:∀id∈tch++ro++bs,id∈names)
  (hearly:∀id∈tch++ro,∀(j:Nat) g',acc[j]?=some g'→j<i→Zi id g'=true→E j=true) (hlate:∀id∈tch++ro++bs,∀(j:Nat) g',acc[j]?=some g'→i<j→Zi id g'=true→E j=false)
  (hbs:∀id∈bs,Yr E id acc 0 (Qe Zs id)=none) (hVe:∀e∈Ve,e∈Ib E acc 0++B) (hups:g.ups=(tch++bs).map fun id=>(id,Qe S1.mem id)) (hgd:g.has=true→∃cs,(⟨g.d,cs,g.av⟩:En)∈S1.env∧cs=[]) (hod:∀d,o.dst=some d→d=g.d)
  (hnt:Vd ((tch.filterMap fun id=>Zv id (Yr Wz id (acc.take i) 0 (Qe Zs id)))++ro.filterMap fun id=>Zv id (Yr Wz id (acc.take i) 0 (Qe Zs id)))=true)
  (hF:∀e∈Ib E acc 0++B,(∀i∈Ja e.av,i∈pr)∧∀d,o.dst=some d→e.t≠d∧∀c∈e.cs,c.1≠d) (hFm:∀id∈Jb (((names.filter fun j=>!Ya (tch++ro++bs) j).filterMap fun id=>Zv id (Yr E id acc 0 (Qe Zs id)))++Mb),id∈pr)
  (hstep:∀(X1:Cx) (Q1:Exit→Act→World→Prop),X1.n=X.n→X1.res=[]→X1.pin=none→Vr Y.gl (okN X1) X1.w→Rel X1 β ρ ⟨Ve,(tch.filterMap fun id=>Zv id (Yr Wz id (acc.take i) 0 (Qe Zs id)))++ro.filterMap fun id=>Zv id (Yr Wz id (acc.take i) 0 (Qe Zs id))⟩ a w→(∀β' ρ' a' w',agP pr β β' ρ ρ'→Rel X1 β' ρ' ⟨S1.env,S1.mem++(ro.filterMap fun id=>Zv id (Yr Wz id (acc.take i) 0 (Qe Zs id)))⟩ a' w'→Q1 .normal a' w')→wpList P ops Q1 [o] a w)
  (H:∀β' ρ' a' w',agP pr β β' ρ ρ'→Rel X β' ρ' ⟨Ib (T2 E i) acc 0++B,Fz names Zs acc (T2 E i)++Mb⟩ a' w'→Q .normal a' w'):wpList P ops Q [o] a w:=by
 have hpart:=Jbw hnd hnn hsub
 have hnow:∀id∈tch++ro,Yr E id acc 0 (Qe Zs id)=Yr Wz id (acc.take i) 0 (Qe Zs id):=fun id hm=>Jgi hg hi (hearly id hm) (hlate id (QZ _ hm))
 have hT:(tch.filterMap fun id=>Zv id (Yr E id acc 0 (Qe Zs id)))=tch.filterMap fun id=>Zv id (Yr Wz id (acc.take i) 0 (Qe Zs id)):=(Y0 fun id hm=>by rw[hnow id (QZ _ hm)])
 have hR:(ro.filterMap fun id=>Zv id (Yr E id acc 0 (Qe Zs id)))=ro.filterMap fun id=>Zv id (Yr Wz id (acc.take i) 0 (Qe Zs id)):=(Y0 fun id hm=>by rw[hnow id (QV _ hm)])
 have hB0:(bs.filterMap fun id=>Zv id (Yr E id acc 0 (Qe Zs id)))=[]:=by
  rw[VV]
  intro id hm
  rw[hbs id hm]; rfl
 have hpm:(Fz names Zs acc E++Mb).Perm ((tch.filterMap fun id=>Zv id (Yr Wz id (acc.take i) 0 (Qe Zs id)))++(ro.filterMap fun id=>Zv id (Yr Wz id (acc.take i) 0 (Qe Zs id)))++(((names.filter fun j=>!Ya (tch++ro++bs) j).filterMap fun id=>Zv id (Yr E id acc 0 (Qe Zs id)))++Mb)):=by
  have h1:=hpart.filterMap fun id=>Zv id (Yr E id acc 0 (Qe Zs id))
  rw[XJ,XJ,XJ,hT,hR,hB0,QR]at h1
  rw[←QH]
  exact h1.append_right Mb
 have h2:Rel X β ρ ⟨Ve++(Ib E acc 0++B),_⟩ a w:=Rel.less (Rel.permM h hpm) fun e he=>by
  rcases QW.1 he with he | he
  ·exact hVe e he
  ·exact he
 refine Jgh hG hr hp h2 hnt hF hFm hstep fun β' ρ' a' w' hag hR1=>H β' ρ' a' w' hag ?_
 have htc:∀id,Zi id g=decide (id∈tch++bs):=fun id=>by
  unfold Zi
  rw[hups,R2]
  by_cases hm:id∈tch++bs
  ·rw[if_pos hm]; simp[H8,hm]
  ·rw[if_neg hm]; simp[H8,hm]
 have hup:∀id∈tch++bs,Yr (T2 E i) id acc 0 (Qe Zs id)=Qe S1.mem id:=fun id hm=>by
  have hm3:id∈tch++ro++bs:=by
   rcases QW.1 hm with h | h
   ·exact QZ _ (QZ _ h)
   ·exact QV _ h
  rw[Jgj hg hi (hlate id hm3)]
  unfold upC
  rw[hups,R2,if_pos hm]
 have hoff:∀id,id∉tch++bs→Yr (T2 E i) id acc 0 (Qe Zs id)=Yr E id acc 0 (Qe Zs id):=fun id hm=>Jgk hg (by rw[htc]; simpa using hm)
 have hnd2:=ZJ.1 hnd
 have hnd3:=ZJ.1 hnd2.1
 have hndtb:(tch++bs).Nodup:=by
  rw[ZJ]
  exact⟨hnd3.1,hnd2.2.1,fun x hx y hy=>hnd2.2.2 x (QZ _ hx) y hy⟩
 have hpm2:(Fz names Zs acc (T2 E i)++Mb).Perm ((Jm S1.mem (tch++bs)).2++(ro.filterMap fun id=>Zv id (Yr Wz id (acc.take i) 0 (Qe Zs id)))++(((names.filter fun j=>!Ya (tch++ro++bs) j).filterMap fun id=>Zv id (Yr E id acc 0 (Qe Zs id)))++Mb)):=by
  have h1:=hpart.filterMap fun id=>Zv id (Yr (T2 E i) id acc 0 (Qe Zs id))
  rw[XJ,XJ,XJ]at h1
  have e1:((tch.filterMap fun id=>Zv id (Yr (T2 E i) id acc 0 (Qe Zs id)))++(bs.filterMap fun id=>Zv id (Yr (T2 E i) id acc 0 (Qe Zs id))))=(Jm S1.mem (tch++bs)).2:=by
   rw[Qkk hndtb,←XJ]
   exact Y0 fun id hm=>by rw[hup id hm]
  have e2:(ro.filterMap fun id=>Zv id (Yr (T2 E i) id acc 0 (Qe Zs id)))=(ro.filterMap fun id=>Zv id (Yr Wz id (acc.take i) 0 (Qe Zs id))):=by
   rw[←hR]
   refine Y0 fun id hm=>by
    rw[hoff id fun hm2=>?_]
    rcases QW.1 hm2 with h | h
    ·exact hnd3.2.2 id h id hm rfl
    ·exact hnd2.2.2 id (QV _ hm) id h rfl
  have e3:((names.filter fun j=>!Ya (tch++ro++bs) j).filterMap fun id=>Zv id (Yr (T2 E i) id acc 0 (Qe Zs id)))=(names.filter fun j=>!Ya (tch++ro++bs) j).filterMap fun id=>Zv id (Yr E id acc 0 (Qe Zs id)):=by
   refine Y0 fun id hm=>by
    rw[hoff id fun hm2=>?_]
    have h3:=(JU.1 hm).2
    have hm3:id∈tch++ro++bs:=by
     rcases QW.1 hm2 with h | h
     ·exact QZ _ (QZ _ h)
     ·exact QV _ h
    rw[Qeq hm3]at h3; cases h3
  rw[e2,e3]at h1
  rw[←e1,←QH]
  refine(h1.append_right Mb).trans ?_
  refine List.Perm.append_right _ (List.Perm.append_right _ ?_)
  rw[QH,QH]
  exact List.Perm.append_left _ XV
 have hsp:(S1.mem++(ro.filterMap fun id=>Zv id (Yr Wz id (acc.take i) 0 (Qe Zs id)))++(((names.filter fun j=>!Ya (tch++ro++bs) j).filterMap fun id=>Zv id (Yr E id acc 0 (Qe Zs id)))++Mb)).Perm ((Jm S1.mem (tch++bs)).1++((Jm S1.mem (tch++bs)).2++(ro.filterMap fun id=>Zv id (Yr Wz id (acc.take i) 0 (Qe Zs id)))++(((names.filter fun j=>!Ya (tch++ro++bs) j).filterMap fun id=>Zv id (Yr E id acc 0 (Qe Zs id)))++Mb))):=by
  have h1:=(Zx (tch++bs) S1.mem).symm.trans XV
  have h3:=(h1.append_right (ro.filterMap fun id=>Zv id (Yr Wz id (acc.take i) 0 (Qe Zs id)))).append_right (((names.filter fun j=>!Ya (tch++ro++bs) j).filterMap fun id=>Zv id (Yr E id acc 0 (Qe Zs id)))++Mb)
  simpa only[QH]using h3
 have hR2:=Rel.permM hR1 hsp
 have hR3:Rel X β' ρ' ⟨S1.env++(Ib E acc 0++B),(Jm S1.mem (tch++bs)).2++(ro.filterMap fun id=>Zv id (Yr Wz id (acc.take i) 0 (Qe Zs id)))++(((names.filter fun j=>!Ya (tch++ro++bs) j).filterMap fun id=>Zv id (Yr E id acc 0 (Qe Zs id)))++Mb)⟩ a' w':=Sb.subO hR2 ((List.sublist_append_right _ _).map _)
 refine Rel.less (Rel.permM hR3 hpm2.symm) fun e he=>?_
 rcases QW.1 he with he | he
 ·obtain⟨k,g',q1,q2,q3,rfl⟩:=Qip he
  rw[QE]at q2
  by_cases hki:k=i
  ·subst hki
   rw[hg]at q1; injection q1 with q1; subst q1
   obtain⟨cs,hm,rfl⟩:=hgd q3
   exact QZ _ hm
  ·simp only[T2]at q2
   rw[show(k==i)=false by simp; omega,KI]at q2
   exact QV _ (QZ _ (Qxj q1 (by rw[QE]; exact q2) q3))
 ·exact QV _ (QV _ he)
end
end Gx

/- A region of open order by ordinary steps: the interpreter. -/
namespace Gx
open Go Go.RowKit Gd
set_option linter.unusedVariables false
set_option linter.unusedSimpArgs false
theorem Qun:∀{acc:List EC} {t:Nat} {v:AV},Qie acc t=some v→∃g∈acc,g.d=t∧g.has=true∧g.av=v
 | [],t,v,h=>by simp[Qie]at h
 | g::l,t,v,h=>by
  simp only[Qie]at h
  cases hb:(Nat.beq g.d t&&g.has)with
  | true =>
   rw[hb]at h
   simp only[QQ]at hb
   simp only[cond_true,Option.some.injEq]at h
   exact⟨g,.head _,QJ hb.1,hb.2,h⟩
  | false =>
   rw[hb]at h
   obtain⟨g',h1,h2⟩:=Qun h
   exact⟨g',.tail _ h1,h2⟩
theorem R3{l0:List Oper}{ds:List Nat}{i:Nat}{acc:List EC}{B:List En}:∀{ts:List Nat} {e:En},e∈Qp1 l0 ds i acc B ts →
  (e.cs=[]∧Qie acc e.t=some e.av∧Q7w l0 i (ds.idxOf e.t)=true)∨e∈B
 | [],e,h=>by
  obtain⟨h1,h2,h3⟩:=Qim (by simpa[Qp1]using h)
  exact .inr h2
 | t::ts,e,h=>by
  simp only[Qp1]at h
  split at h
  ·rename_i v hv
   cases hp:Q7w l0 i (ds.idxOf t)with
   | true =>
    rw[hp]at h
    rcases QX.1 h with rfl | h
    ·exact .inl ⟨rfl,hv,hp⟩
    ·exact R3 h
   | false=>rw[hp]at h; exact R3 h
  ·cases hb:Qlw ds t with
   | true =>
    rw[hb]at h
    simp only[cond_true]at h
    split at h
    ·rename_i t' v he
     obtain⟨h1,h2⟩:=U1 he
     rcases QX.1 h with rfl | h
     ·exact .inr h1
     ·exact R3 h
    ·exact R3 h
   | false=>rw[hb]at h; exact R3 h
theorem C8{l m:List Nat}(h:Qbb l m=true){x:Nat}(h1:x∈l)(h2:x∈m):False:=by
 have:=JN.1 h x h1
 rw[Qeq h2]at this; cases this
section
variable {R:Type} (Y:TX) (K:List Con) (n:Nat) (l0:List Oper) (ds:List Nat) (Zs:List (Nat×Ob)) (B:List En) (prA:List Nat)
def TrC:List HD→List Oper→Nat→List EC→List EC→Prop
 | [],[],_,_,[]=>True
 | hc::hs,o::l,i,acc,g::acc2=>(∃S1,Yw (R:=XS) Y K n l0 hc.h [o] (Qp2 l0 ds Zs B prA hc o i acc) some=some S1∧Qgm n ds Zs hc o i acc S1=some g)∧TrC hs l (i+1) (acc++[g]) acc2
 | _,_,_,_,_=>False
end
section
variable {R:Type} {r:R} {Y:TX} {K:List Con} {n:Nat} {l0:List Oper} {ds:List Nat} {Zs:List (Nat×Ob)} {B:List En} {prA:List Nat}
theorem Qqu{acc:List EC}{t:Nat}{b:Bool}(h:Qie acc t=some (.d .bool b)):Q0p acc t b=acc:=by
 induction acc with
 | nil=>rfl
 | cons g l ih =>
  simp only[Qie]at h
  simp only[Q0p]
  cases hb:(Nat.beq g.d t&&g.has)with
  | true =>
   rw[hb]at h
   simp only[cond_true,Option.some.injEq]at h
   obtain⟨gd,gv,gh,gu⟩:=g
   simp only at h
   subst h
   rfl
  | false =>
   rw[hb]at h
   simp only[cond_false]
   rw[ih h]
theorem Qoq:∀{ht:HT} {l:List Oper} {i:Nat} {hs:List HD} {acc:List EC} {k:Hn→List HD→List EC→Option R},Qp3 Y K n l0 ds Zs B prA ht l i hs acc k=some r →
  ∃h hs2 acc2,k h (hs++hs2) (acc++acc2)=some r∧TrC Y K n l0 ds Zs B prA hs2 l i acc acc2∧∀x∈Kl hs2,x∈Cb ht
 | .tl h,[],i,hs,acc,k,hr=>⟨h,[],[],by simpa[Qp3]using hr,trivial,by simp[Kl]⟩
 | .tl h,_::_,i,hs,acc,k,hr=>by simp[Qp3]at hr
 | .op hc t,[],i,hs,acc,k,hr=>by simp[Qp3]at hr
 | .op hc t,o::l,i,hs,acc,k,hr=>by
  simp only[Qp3]at hr
  obtain⟨S1,h1,h2⟩:=Qp8 hr
  split at h1
  ·rename_i g hg
   obtain⟨h,hs2,acc2,h3,h4,h5⟩:=Qoq h1
   refine⟨h,hc::hs2,g::acc2,by simpa using h3,⟨⟨S1,h2,hg⟩,h4⟩,fun x hx=>?_⟩
   rcases QW.1 hx with hx | hx
   ·exact QZ _ hx
   ·exact QV _ (h5 x hx)
  ·cases h1
 | .so t a b,l,i,hs,acc,k,hr=>by
  simp only[Qp3]at hr
  split at hr
  ·rename_i v hv
   cases v with
   | true =>
    rw[if_pos rfl,Qqu hv]at hr
    obtain⟨h,hs2,acc2,h3,h4,h5⟩:=Qoq hr
    exact⟨h,hs2,acc2,h3,h4,fun x hx=>QZ _ (h5 x hx)⟩
   | false =>
    rw[if_neg (by simp),Qqu hv]at hr
    obtain⟨h,hs2,acc2,h3,h4,h5⟩:=Qoq hr
    exact⟨h,hs2,acc2,h3,h4,fun x hx=>QV _ (h5 x hx)⟩
  ·cases hr
theorem TrC.get:∀{hs:List HD} {l:List Oper} {i:Nat} {acc acc2:List EC},TrC Y K n l0 ds Zs B prA hs l i acc acc2→acc2.length=l.length∧hs.length=l.length∧∀(j:Nat) o,l[j]?=some o→∃g hc S1,acc2[j]?=some g∧hs[j]?=some hc ∧
  Yw (R:=XS) Y K n l0 hc.h [o] (Qp2 l0 ds Zs B prA hc o (i+j) (acc++acc2.take j)) some=some S1∧Qgm n ds Zs hc o (i+j) (acc++acc2.take j) S1=some g
 | [],[],i,acc,[],_=>⟨rfl,rfl,by simp⟩
 | [],[],i,acc,_::_,h=>h.elim
 | [],_::_,i,acc,_,h=>by simp[TrC]at h
 | _::_,[],i,acc,_,h=>by simp[TrC]at h
 | _::_,_::_,i,acc,[],h=>by simp[TrC]at h
 | hc::hs,o::l,i,acc,g::acc2,h=>by
  obtain⟨⟨S1,q1,q2⟩,h0⟩:=h
  obtain⟨h2,h2',h3⟩:=TrC.get h0
  refine⟨by simp[h2],by simp[h2'],fun j o' ho=>?_⟩
  cases j with
  | zero =>
   simp at ho; subst ho
   exact⟨g,hc,S1,rfl,rfl,by simpa using q1,by simpa using q2⟩
  | succ j =>
   obtain⟨g',hc',S1',p1,p2,p3,p4⟩:=h3 j o' (by simpa using ho)
   refine⟨g',hc',S1',by simpa using p1,by simpa using p2,?_,?_⟩
   ·rw[show i+(j+1)=i+1+j by omega]; simpa using p3
   ·rw[show i+(j+1)=i+1+j by omega]; simpa using p4
end
end Gx

/- A region of open order by ordinary steps. -/
namespace Gx
open Go Go.RowKit Gd
set_option linter.unusedVariables false
set_option linter.unusedSimpArgs false
theorem Lt{n:Nat}{ds:List Nat}{Zs:List (Nat×Ob)}{hc:HD}{o:Oper}{i:Nat}{acc:List EC}{S1:XS}{g:EC}(h:Qgm n ds Zs hc o i acc S1=some g) :
  Vd (Qft hc.tch Zs acc++Qft hc.ro Zs acc)=true∧W8 hc.nm (Jb S1.mem)=true∧(g.ups=(hc.tch++hc.bs).map fun id=>(id,Qe S1.mem id))∧ds.getD i 0=g.d∧W8 hc.nm (Ja g.av)=true∧(∀d,o.dst=some d→d=g.d∧d<n)∧(g.has=true→∃cs,(⟨g.d,cs,g.av⟩:En)∈S1.env∧cs=[])∧(o.dst=none→n≤1000000000→n≤g.d):=by
 unfold Qgm at h
 obtain⟨hb,h⟩:=bvT h
 simp only[QQ]at hb
 split at h
 ·rename_i d hd
  split at h
  ·rename_i t av hl
   obtain⟨hb2,h⟩:=bvT h
   simp only[QQ]at hb2
   simp only[Option.some.injEq]at h
   subst h
   obtain⟨hm,ht⟩:=U1 hl
   simp only at ht
   subst ht
   exact⟨hb.1,hb.2,rfl,QJ hb2.1.1,hb2.1.2,fun d' hd'=>by rw[hd]at hd'; injection hd' with hd'; subst hd'; exact⟨rfl,QF hb2.2⟩,fun _=>⟨[],hm,rfl⟩,fun hn=>by rw[hd]at hn; cases hn⟩
  ·cases h
 ·rename_i hd
  obtain⟨hb2,h⟩:=bvT h
  simp only[Option.some.injEq]at h
  subst h
  exact⟨hb.1,hb.2,rfl,QJ hb2,(by trivial),(fun d' hd'=>by rw[hd]at hd'; cases hd'),(fun h=>by cases h),fun _ hn=>by simp only; omega⟩
theorem Qct:∀{l m:List (Nat×Ob)} {i:Nat},i∈Jb (l++m)→i∈Jb l∨i∈Jb m
 | [],m,i,h=>.inr h
 | (k,ob)::l,m,i,h=>by
  have key:∀{xs:List Nat},i∈xs++Jb (l++m)→i∈xs++Jb l∨i∈Jb m:=fun {xs} h=>by
   rcases QW.1 h with h | h
   ·exact .inl (QZ _ h)
   ·exact(Qct h).imp (QV _) id
  cases ob with
  | var t c=>exact key (xs:=k::Ja c) (by simpa[Jb]using h) |>.imp (by simp[Jb]) id
  | mapC a b xs hole =>
   cases hole with
   | none=>exact key (xs:=[k]) (by simpa[Jb]using h) |>.imp (by simp[Jb]) id
   | some q=>exact key (xs:=[k,q.2]) (by simpa[Jb]using h) |>.imp (by simp[Jb]) id
  | mapE k1 v1 xs1 key1 j=>exact key (xs:=[k,j]) (by simpa[Jb]using h) |>.imp (by simp[Jb]) id
  | _=>exact key (xs:=[k]) (by simpa[Jb]using h) |>.imp (by simp[Jb]) id
theorem Qqv{f:Nat→Option Ob}{i:Nat}:∀{ids:List Nat},i∈Jb (ids.filterMap fun id=>Zv id (f id))→∃id∈ids,∃ob,f id=some ob∧i∈Jb [(id,ob)]
 | [],h=>by cases h
 | id::ids,h=>by
  simp only[XE]at h
  cases hf:f id with
  | none =>
   rw[hf]at h
   obtain⟨id',h1,ob,h2,h3⟩:=Qqv (ids:=ids) h
   exact⟨id',.tail _ h1,ob,h2,h3⟩
  | some ob =>
   rw[hf]at h
   rcases Qct (l:=[(id,ob)]) h with h | h
   ·exact⟨id,.head _,ob,hf,h⟩
   ·obtain⟨id',h1,ob',h2,h3⟩:=Qqv (ids:=ids) h
    exact⟨id',.tail _ h1,ob',h2,h3⟩
theorem Quo{M:List (Nat×Ob)}{id i:Nat}{ob:Ob}:Qe M id=some ob→i∈Jb [(id,ob)]→i∈Jb M:=by
 intro h hi
 obtain⟨l1,l2,e,w1,w2⟩:=Ji h
 rw[e]
 clear e h w1 w2
 induction l1 with
 | nil =>
  have key:∀{xs ys:List Nat},i∈xs++[]→i∈xs++ys:=fun h=>QZ _ (by simpa using h)
  cases ob with
  | var t c=>have:=key (xs:=id::Ja c) (ys:=Jb l2) (by simpa[Jb]using hi); simpa[Jb]using this
  | mapC a b xs hole =>
   cases hole with
   | none=>have:=key (xs:=[id]) (ys:=Jb l2) (by simpa[Jb]using hi); simpa[Jb]using this
   | some q=>have:=key (xs:=[id,q.2]) (ys:=Jb l2) (by simpa[Jb]using hi); simpa[Jb]using this
  | mapE k1 v1 xs1 key1 j=>have:=key (xs:=[id,j]) (ys:=Jb l2) (by simpa[Jb]using hi); simpa[Jb]using this
  | _=>have:=key (xs:=[id]) (ys:=Jb l2) (by simpa[Jb]using hi); simpa[Jb]using this
 | cons q l ih =>
  obtain⟨k,x⟩:=q
  cases x with
  | var t c=>simp only[QA,Jb]; exact .tail _ (QV _ ih)
  | mapC a b xs hole =>
   cases hole with
   | none=>simp only[QA,Jb]; exact .tail _ ih
   | some q=>simp only[QA,Jb]; exact .tail _ (.tail _ ih)
  | mapE k1 v1 xs1 key1 j=>simp only[QA,Jb]; exact .tail _ (.tail _ ih)
  | _=>simp only[QA,Jb]; exact .tail _ ih
theorem Q1i{E:Nat→Bool}{id:Nat}{ob:Ob}:∀{l:List EC} {j:Nat} {c:Option Ob},Yr E id l j c=some ob→c=some ob∨∃(k:Nat) (g:EC),l[k]?=some g∧E (j+k)=true∧Ql8 g.ups id=some (some ob)
 | [],j,c,h=>.inl h
 | g0::l,j,c,h=>by
  simp only[Yr]at h
  rcases Q1i h with h1 | ⟨k,g,h1,h2,h3⟩
  ·cases hE:E j with
   | false=>rw[hE]at h1; exact .inl h1
   | true =>
    rw[hE]at h1
    simp only[cond_true,upC]at h1
    cases hl:Ql8 g0.ups id with
    | none=>rw[hl]at h1; exact .inl h1
    | some x=>rw[hl]at h1; simp only at h1; subst h1; exact .inr ⟨0,g0,rfl,hE,hl⟩
  ·exact .inr ⟨k+1,g,by simpa using h1,by rw[show j+(k+1)=j+1+k by omega]; exact h2,h3⟩
end Gx

/- A region of open order by ordinary steps: sound. -/
namespace Gx
open Go Go.RowKit Gd
set_option linter.unusedVariables false
set_option linter.unusedSimpArgs false
theorem Qup:∀{hs:List HD} {i:Nat},(∃hc∈hs,i∈hc.bs)→i∈Kl hs
 | [],i,⟨_,h,_⟩=>by cases h
 | h::l,i,⟨hc,hm,hi⟩=>by
  rcases QX.1 hm with rfl | hm
  ·exact QZ _ hi
  ·exact QV _ (Qup ⟨hc,hm,hi⟩)
theorem Q53{l0:List Oper}{hs:List HD}(h:Jqo l0 hs=true){i j:Nat}{hi hj:HD}(h1:hs[i]?=some hi)(h2:hs[j]?=some hj)(hji:j<i):Qif l0 i j hi hj=true:=by
 have hil:=(QK.1 h1).1
 have:=JN.1 (JN.1 h i (JT.2 hil)) j (JT.2 hji)
 rw[h1,h2]at this
 exact this
theorem Jqx{l0:List Oper}{hs:List HD}(h:nmB l0 hs=true){i j:Nat}{hi hj:HD}(h1:hs[i]?=some hi)(h2:hs[j]?=some hj)(hji:i≠j):Qbb hi.bs hj.nm=true∨Fs l0 l0.length j i=true:=by
 have hil:=(QK.1 h1).1
 have hjl:=(QK.1 h2).1
 have:=JN.1 (JN.1 h i (JT.2 hil)) j (JT.2 hjl)
 rw[h1,h2]at this
 simp only[Jph hji,KI,JS]at this
 exact this
theorem Quq{m:List (Nat×Ob)}{i:Nat}:∀{l:List (Nat×Ob)},i∈Jb l→i∈Jb (l++m)
 | [],h=>by cases h
 | (k,x)::l,h=>by
  have key:∀{xs:List Nat},i∈xs++Jb l→i∈xs++Jb (l++m):=fun {xs} h=>by
   rcases QW.1 h with h | h
   ·exact QZ _ h
   ·exact QV _ (Quq h)
  cases x with
  | var t c=>have:=key (xs:=k::Ja c) (by simpa[Jb]using h); simpa[Jb]using this
  | mapC a b xs hole =>
   cases hole with
   | none=>have:=key (xs:=[k]) (by simpa[Jb]using h); simpa[Jb]using this
   | some q=>have:=key (xs:=[k,q.2]) (by simpa[Jb]using h); simpa[Jb]using this
  | mapE k1 v1 xs1 key1 j=>have:=key (xs:=[k,j]) (by simpa[Jb]using h); simpa[Jb]using this
  | _=>have:=key (xs:=[k]) (by simpa[Jb]using h); simpa[Jb]using this
theorem Qqw{m:List (Nat×Ob)}{i:Nat}(h:i∈Jb m):∀{l:List (Nat×Ob)},i∈Jb (l++m)
 | []=>h
 | (k,x)::l=>by
  have ih:=Qqw h (l:=l)
  cases x with
  | var t c=>simp only[QA,Jb]; exact .tail _ (QV _ ih)
  | mapC a b xs hole =>
   cases hole with
   | none=>simp only[QA,Jb]; exact .tail _ ih
   | some q=>simp only[QA,Jb]; exact .tail _ (.tail _ ih)
  | mapE k1 v1 xs1 key1 j=>simp only[QA,Jb]; exact .tail _ (.tail _ ih)
  | _=>simp only[QA,Jb]; exact .tail _ ih
theorem Qqx{E E':Nat→Bool}:∀{acc:List EC} {j:Nat},(∀k,k<acc.length→E (j+k)=E' (j+k))→Ib E acc j=Ib E' acc j
 | [],_,_=>rfl
 | g::l,j,h=>by
  have h0:=h 0 (by simp)
  rw[ZD]at h0
  have ih:Ib E l (j+1)=Ib E' l (j+1):=Qqx fun k hk=>by
   have:=h (k+1) (by simp only[JI]; omega)
   rwa[show j+(k+1)=j+1+k by omega]at this
  simp only[Ib,h0,ih]
theorem Qur:∀{acc:List EC} {j:Nat},Ib (fun _=>false) acc j=[]
 | [],_=>rfl
 | g::l,j=>by simp only[Ib,Bool.false_and,cond_false]; exact Qur
theorem Jbx{Zs:List (Nat×Ob)}{bs:List Nat}{acc:List EC}(hN:(Y9 Zs++bs).Nodup):Fz (Y9 Zs++bs) Zs acc (fun _=>false)=Zs:=by
 unfold Fz
 have h0:∀id c,Yr (fun _=>false) id acc 0 c=c:=fun id c=>Ls fun _ _ _ _=>rfl
 obtain⟨n1,n2,n3⟩:=ZJ.1 hN
 rw[XJ]
 have e2:(bs.filterMap fun id=>Zv id (Yr (fun _=>false) id acc 0 (Qe Zs id)))=[]:=by
  rw[VV]
  intro d hd
  rw[h0]
  cases hl:Qe Zs d with
  | none=>rfl
  | some ob=>exact absurd rfl (n3 d (Qcr (by rw[hl]; rfl)) d hd)
 rw[e2,QR]
 unfold Y9
 rw[List.filterMap_map]
 refine(Y0 (f:=some) fun q hq=>?_).trans WV
 simp only[Function.comp,h0,Qgp n1 q hq,Zv]
section
variable {P:Program} {Y:TX} {X:Cx} {K:List Con} {n:Nat} {l0:List Oper} {ds:List Nat} {Zs Mb:List (Nat×Ob)} {B:List En} {prA prB:List Nat} {R:Type} {r:R} {β:Nat→Nat} {ρ:Nat→Value} {a:Act} {w:World}
theorem Q54(hT:Q4 P Y.T)(hmix:P.follows .mixedOrders=true)(hK:KsX P Y X K)(hX:X.n=n)(hr:X.res=[])(hp:X.pin=none){ht:HT}{p:Nat}(h:Rel X β ρ ⟨B,Zs++Mb⟩ a w)
  (hBt:∀e∈B,∀d∈ds,d<n→e.t≠d∧∀c∈e.cs,c.1≠d) (hBi:∀e∈B,∀i∈Ja e.av,i∈prB) (hMi:∀i∈Jb (Zs++Mb),i∈prB)
  (hb:Q8a l0 p ds=true) {k:Hn→List HD→List EC→Option R} (hs:Qp3 Y K n l0 ds Zs B prA ht (l0.take p) 0 [] [] k=some r)
  (hch:∀h hs0 acc,k h hs0 acc=some r→Jkm l0 (Y9 Zs) prB prA hs0=true) (hpA:∀i∈prB,i∈prA) {id:Nat} {Q:Exit→Act→World→Prop}
  (H:∀β' ρ' a' w' h hs0 acc,k h hs0 acc=some r→(∀(x:Nat),(∀hc∈hs0,x∉hc.wr)→∀g∈acc,Zi x g=false)→(∀x∈Kl hs0,x∈Cb ht)→agP prB β β' ρ ρ'→Rel X β' ρ' ⟨Ib Wz acc 0++B,Fz (Y9 Zs++Kl hs0) Zs acc Wz++Mb⟩ a' w'→wpList P ⟨l0⟩ Q (l0.drop p) a' w'):(Code.region id ⟨l0⟩ true).wp P Q a w:=by
 unfold Q8a at hb
 simp only[QQ]at hb
 obtain⟨⟨⟨⟨hple,hlen⟩,hback⟩,hfin⟩,hndB⟩:=hb
 have hnd:=Qtr hndB
 have hpl:=QF hple
 have hdl:=QJ hlen
 obtain⟨hn,hs0,acc,hk,htr,hbT⟩:=Qoq hs
 simp only[QD]at hk
 have hchk:=hch _ _ _ hk
 unfold Jkm at hchk
 simp only[QQ]at hchk
 obtain⟨⟨⟨⟨⟨hcf,hnm⟩,hNb⟩,hapB⟩,hNAb⟩,hall0⟩:=hchk
 have hN:=R0 hNb
 have hNA:∀i∈Y9 Zs++Kl hs0,i∈prA:=fun i hi=>Ff hNAb i hi
 have hprB:∀i∈prB,i∈prA∧i∉Kl hs0:=fun i hi=>⟨hpA i hi,fun h2=>C8 hapB hi h2⟩
 have hal0:∀hc∈hs0,L4 hc.al=true∧W8 (Y9 Zs++Kl hs0) hc.al=true∧W8 prA hc.nm=true:=fun hc hm=>by
  have:=JN.1 hall0 hc hm
  simp only[QQ]at this
  exact⟨this.1.1,this.1.2,this.2⟩
 have hNm:∀hc∈hs0,∀i∈hc.nm,i∈prA:=fun hc hm i hi=>Ff (hal0 hc hm).2.2 i hi
 have hal:∀hc∈hs0,(hc.tch++hc.ro++hc.bs).Nodup∧∀i∈hc.tch++hc.ro++hc.bs,i∈Y9 Zs++Kl hs0:=fun hc hm=>⟨R0 (hal0 hc hm).1,fun i hi=>Ff (hal0 hc hm).2.1 i hi⟩
 obtain⟨hal1,hal2,hall⟩:=htr.get
 have hap:acc.length=p:=by rw[hal1,QO]; omega
 simp only[QD,QE]at hall
 have hget:∀(i:Nat) o,i<p→l0[i]?=some o→∃g hc S1,acc[i]?=some g∧hs0[i]?=some hc∧Yw (R:=XS) Y K n l0 hc.h [o] (Qp2 l0 ds Zs B prA hc o i (acc.take i)) some=some S1∧Qgm n ds Zs hc o i (acc.take i) S1=some g:=fun i o hi ho=>hall i o (by rw[JD,if_pos hi]; exact ho)
 have hof:∀(j:Nat) g,acc[j]?=some g→j<p∧∃o hc S1,l0[j]?=some o∧hs0[j]?=some hc∧Qgm n ds Zs hc o j (acc.take j) S1=some g:=fun j g hg=>by
  have hj:j<p:=by have:=(QK.1 hg).1; omega
  obtain⟨g',hc,S1,q1,q2,_,q4⟩:=hget j l0[j] hj (QU (by omega))
  rw[hg]at q1; injection q1 with q1; subst q1
  exact⟨hj,_,hc,S1,QU (by omega),q2,q4⟩
 have htch:∀(j:Nat) g hc x,acc[j]?=some g→hs0[j]?=some hc→Zi x g=true→x∈hc.wr:=fun j g hc x hg hh ht=>by
  obtain⟨_,o,hc',S1,_,q2,q3⟩:=hof j g hg
  rw[hh]at q2; injection q2 with q2; subst q2
  unfold Zi at ht
  rw[(Lt q3).2.2.1,R2]at ht
  by_cases hm:x∈hc.tch++hc.bs
  ·exact hm
  ·rw[if_neg hm]at ht; simp[H8]at ht
 have hdsj:∀(j:Nat) g,acc[j]?=some g→ds[j]?=some g.d:=fun j g hg=>by
  obtain⟨hj,o,hc,S1,_,_,q3⟩:=hof j g hg
  exact Jbs (by omega) (Lt q3).2.2.2.1
 have hno:∀(x:Nat),(∀hc∈hs0,x∉hc.wr)→∀g∈acc,Zi x g=false:=fun x hx g hg=>by
  obtain⟨j,hj⟩:=XC hg
  obtain⟨hjp,o,hc,S1,p1,p2,p3⟩:=hof j g hj
  cases ht:Zi x g with
  | false=>rfl
  | true=>exact absurd (htch j g hc x hj p2 ht) (hx hc (JM p2))
 refine Q51 (fun E a w=>∃β' ρ',agP prB β β' ρ ρ'∧Rel X β' ρ' ⟨Ib E acc 0++B,Fz (Y9 Zs++Kl hs0) Zs acc E++Mb⟩ a w) hmix p (fun E E' a w hE ⟨β',ρ',q1,q2⟩=>⟨β',ρ',q1,?_⟩) hple hback hfin ⟨β,ρ,agP.refl _ _ _,?_⟩ (fun E i o a w Q' hip ho hcl hEi hpre ⟨β1,ρ1,hag,hR⟩ hQ=>?_) fun a' w' ⟨β',ρ',q1,q2⟩=>H β' ρ' a' w' hn hs0 acc hk hno hbT q1 q2
 ·have e1:Ib E acc 0=Ib E' acc 0:=Qqx fun k hk=>by rw[QE]; exact hE k (by omega)
  have e2:Fz (Y9 Zs++Kl hs0) Zs acc E=Fz (Y9 Zs++Kl hs0) Zs acc E':=Y0 fun id _=>by
   rw[L9 (E:=E) (E':=E') fun k e hk _=>by rw[QE]; exact hE k (by have:=(QK.1 hk).1; omega)]
  rw[e1,e2]at q2
  exact q2
 ·rw[Qur,Jbx hN]
  exact Sb.below h ((Below.refl _ _).drew)
 ·obtain⟨g,hc,S1,hg,hhc,hrun,hst⟩:=hget i o hip ho
  obtain⟨t1,t2,t3,t4,t5,t6,t7,t8⟩:=Lt hst
  obtain⟨al1,al2⟩:=hal hc (JM hhc)
  have hlateB:∀j,Fs l0 l0.length j i=true→E j=false:=fun j hbj=>by
   cases hE:E j with
   | false=>rfl
   | true =>
    have:E i=true:=Rj hcl l0.length j i hbj fun o' ho' e he hb'=>hcl j o' hE ho' e he hb'
    rw[hEi]at this; cases this
  have hearB:∀j,Fs l0 l0.length i j=true→E j=true:=fun j hbj=>Rj hcl l0.length i j hbj fun o' ho' e he hb'=>by rw[ho]at ho'; injection ho' with ho'; subst ho'; exact hpre e he hb'
  have hlate:∀id∈hc.tch++hc.ro++hc.bs,∀(j:Nat) g',acc[j]?=some g'→i<j→Zi id g'=true→E j=false:=fun id hm j g' hj hij ht=>by
   obtain⟨hjp,oj,hcj,S1j,p1,p2,p3⟩:=hof j g' hj
   have hw:=htch j g' hcj id hj p2 ht
   have hse:=Q53 hcf p2 hhc hij
   unfold Qif at hse
   simp only[QQ,JS]at hse
   rcases hse.1 with⟨s1,s2⟩ | s1
   ·exfalso
    rcases QW.1 hm with hm | hm
    ·rcases QW.1 hm with hm | hm
     ·exact C8 s1 (QZ _ hm:id∈hc.wr) (by
       rcases QW.1 hw with q | q
       ·exact QZ _ (QZ _ q)
       ·exact QV _ q)
     ·exact C8 s2 hm hw
    ·exact C8 s1 (QV _ hm:id∈hc.wr) (by
       rcases QW.1 hw with q | q
       ·exact QZ _ (QZ _ q)
       ·exact QV _ q)
   ·exact hlateB j s1
  have hearly:∀id∈hc.tch++hc.ro,∀(j:Nat) g',acc[j]?=some g'→j<i→Zi id g'=true→E j=true:=fun id hm j g' hj hij ht=>by
   obtain⟨hjp,oj,hcj,S1j,p1,p2,p3⟩:=hof j g' hj
   have hw:=htch j g' hcj id hj p2 ht
   have hse:=Q53 hcf hhc p2 hij
   unfold Qif at hse
   simp only[QQ,JS]at hse
   rcases hse.1 with⟨s1,s2⟩ | s1
   ·exact(C8 s1 hw (QZ _ hm)).elim
   ·exact hearB j s1
  have hbsA:∀id∈hc.bs,id∈Kl hs0:=fun id hm=>Qup ⟨hc,JM hhc,hm⟩
  have hbs:∀id∈hc.bs,Yr E id acc 0 (Qe Zs id)=none:=fun id hm=>by
   have hz:Qe Zs id=none:=by
    cases hl:Qe Zs id with
    | none=>rfl
    | some ob=>exact absurd rfl ((ZJ.1 hN).2.2 id (Qcr (by rw[hl]; rfl)) id (hbsA id hm))
   rw[hz]
   refine Ls fun j g' hj ht=>?_
   rw[QE]
   rcases Nat.lt_trichotomy j i with hji | hji | hji
   ·obtain⟨hjp,oj,hcj,S1j,p1,p2,p3⟩:=hof j g' hj
    have hse:=Q53 hcf hhc p2 hji
    unfold Qif at hse
    simp only[QQ]at hse
    exact(C8 hse.2 hm (htch j g' hcj id hj p2 ht)).elim
   ·rw[hji]; exact hEi
   ·exact hlate id (QV _ hm) j g' hj hji ht
  have hprs:∀x∈prB,x∈Qig prA hc.bs:=fun x hx=>by
   obtain⟨q1,q2⟩:=hprB x hx
   refine JU.2 ⟨q1,?_⟩
   cases hm:Ya hc.bs x with
   | false=>rfl
   | true=>exact absurd (hbsA x (Qil hm)) q2
  have hnmj:∀(j:Nat) g',acc[j]?=some g'→E j=true→∀hcj,hs0[j]?=some hcj→∀x∈hcj.nm,x∈Qig prA hc.bs:=fun j g' hj hE hcj p2 x hx=>by
   refine JU.2 ⟨hNm hcj (JM p2) x hx,?_⟩
   cases hm:Ya hc.bs x with
   | false=>rfl
   | true =>
    have hij:i≠j:=fun e=>by subst e; rw[hEi]at hE; cases hE
    rcases Jqx hnm hhc p2 hij with q | q
    ·exact(C8 q (Qil hm) hx).elim
    ·rw[hlateB j q]at hE; cases hE
  refine Jgl hK.2 hr hp (S1:=S1) (tch:=hc.tch) (ro:=hc.ro) (bs:=hc.bs) (pr:=Qig prA hc.bs) (Ve:=Qp1 l0 ds i (acc.take i) B (Q5p o++gTs l0 o)) hR hg hEi hN al1 al2 hearly hlate hbs (fun e he=>?_) t3 t7 (fun d hd=>(t6 d hd).1) t1 (fun e he=>?_) (fun x hx=>?_) (fun X1 Q1 x1 x2 x3 x4 x5 x6=>?_) fun β' ρ' a' w' y1 y2=>hQ a' w' ⟨β',ρ',agP.trans hag fun x hx=>y1 x (hprs x hx),y2⟩
  ·rcases R3 he with⟨v1,v2,v3⟩ | v1
   ·obtain⟨g',m1,m2,m3,m4⟩:=Qun v2
    obtain⟨j,hj⟩:=XC m1
    rw[JD]at hj
    split at hj
    ·rename_i hji
     have hd':=hdsj j g' hj
     have hix:ds.idxOf e.t=j:=by
      have hjl:=(QK.1 hd').1
      have:=hnd.idxOf_getElem j hjl
      rw[(QK.1 hd').2,m2]at this
      exact this
     rw[hix]at v3
     have hEj:E j=true:=by
      simp only[Q7w,ho]at v3
      obtain⟨e',he',hb'⟩:=List.any_eq_true.1 v3
      simp only[QQ]at hb'
      rw[←QJ hb'.2]
      exact hpre e' he' hb'.1
     refine QZ _ ?_
     have:=Qxj (E:=E) (acc:=acc) (j:=0) (k:=j) hj (by rw[QE]; exact hEj) m3
     obtain⟨et,ecs,eav⟩:=e
     simp only at v1 m2 m4
     subst v1; subst m2; subst m4
     exact this
    ·cases hj
   ·exact QV _ v1
  ·rcases QW.1 he with he | he
   ·obtain⟨j,g',q1,q2,q3,rfl⟩:=Qip he
    rw[QE]at q2
    obtain⟨hjp,oj,hcj,S1j,p1,p2,p3⟩:=hof j g' q1
    refine⟨fun x hx=>hnmj j g' q1 q2 hcj p2 x (Ff (Lt p3).2.2.2.2.1 x hx),fun d hd=>⟨fun e=>?_,by simp⟩⟩
    have e1:=(t6 d hd).1
    have d1:=hdsj j g' q1
    have d2:=hdsj i g hg
    have hij:j=i:=by
     obtain⟨b1,c1⟩:=QK.1 d1
     obtain⟨b2,c2⟩:=QK.1 d2
     have a1:=hnd.idxOf_getElem j b1
     have a2:=hnd.idxOf_getElem i b2
     rw[show ds[j]=ds[i]from c1.trans (e.trans (e1.trans c2.symm))]at a1
     exact a1.symm.trans a2
    rw[hij,hEi]at q2; cases q2
   ·refine⟨fun x hx=>hprs x (hBi e he x hx),fun d hd=>?_⟩
    obtain⟨e1,e2⟩:=t6 d hd
    exact hBt e he d (by rw[e1]; exact JM (hdsj i g hg)) e2
  ·rcases Qct hx with hx | hx
   ·obtain⟨id,h1,ob,h2,h3⟩:=Qqv hx
    rcases Q1i h2 with h6 | ⟨j,g',q1,q2,q3⟩
    ·exact hprs x (hMi x (Quq (Quo h6 h3)))
    ·rw[QE]at q2
     obtain⟨hjp,oj,hcj,S1j,p1,p2,p3⟩:=hof j g' q1
     refine hnmj j g' q1 q2 hcj p2 x (Ff (Lt p3).2.1 x ?_)
     rw[(Lt p3).2.2.1,R2]at q3
     split at q3
     ·exact Quo (Option.some.inj q3) h3
     ·cases q3
   ·exact hprs x (hMi x (Qqw hx))
  ·have hflat:(Qp2 l0 ds Zs B prA hc o i (acc.take i)).flat=⟨Qp1 l0 ds i (acc.take i) B (Q5p o++gTs l0 o),Qft hc.tch Zs (acc.take i)++Qft hc.ro Zs (acc.take i)⟩:=by
    simp only[XS.flat,Qp2,QR]
   have:=Y3 hT (X:=X1) ⟨hK.1,x4⟩ (x1.trans hX) x2 (Q:=Q1) hc.h (l:=[o]) (rest:=[]) (S:=Qp2 l0 ds Zs B prA hc o i (acc.take i)) (a:=a) (w:=w) (by rw[hflat]; exact x5) hrun fun β' ρ' S' a' w' k1 k2 k3=>by
    simp only[Option.some.injEq]at k1
    subst k1
    have kf:S'.fix=[]:=k2.fix
    have km:S'.fixM=Qft hc.ro Zs (acc.take i):=k2.fixM
    refine x6 β' ρ' a' w' k2.ag ?_
    have e:S'.flat=⟨S'.env,S'.mem++Qft hc.ro Zs (acc.take i)⟩:=by simp only[XS.flat,kf,km,QR]
    rw[e]at k3
    exact k3
   simpa using this
end
end Gx

/- A region of open order by ordinary steps, as the interpreter walks it. -/
namespace Gx
open Go Go.RowKit Gd
set_option linter.unusedVariables false
set_option linter.unusedSimpArgs false
theorem Qcu{M:List (Nat×Ob)}:∀{B:List En} {e:En},e∈Ja8 M B→∃e0∈B,e=⟨e0.t,e0.cs,O7 M e0.av⟩
 | [],e,h=>by cases h
 | e0::l,e,h=>by
  simp only[Ja8]at h
  cases hb:Qw6 M (Qt1 e0.av)with
  | true =>
   rw[hb]at h
   rcases QX.1 h with rfl | h
   ·exact⟨e0,.head _,rfl⟩
   ·obtain⟨e1,h1,h2⟩:=Qcu h
    exact⟨e1,.tail _ h1,h2⟩
  | false =>
   rw[hb]at h
   obtain⟨e1,h1,h2⟩:=Qcu h
   exact⟨e1,.tail _ h1,h2⟩
theorem Jmg{α:Type}(a b c d:List α):((a++b)++(c++d)).Perm ((a++c)++(b++d)):=by
 rw[QH,QH]
 refine List.Perm.append_left a ?_
 rw[←QH,←QH]
 exact List.perm_append_comm.append_right d
theorem Qus{E:Nat→Bool}{id:Nat}:∀{l:List EC} {j:Nat} {c:Option Ob},(∀g∈l,Zi id g=false)→Yr E id l j c=c
 | [],j,c,_=>rfl
 | g::l,j,c,h=>by
  simp only[Yr]
  rw[Q52 (h g (.head _))]
  rw[show(bif E j then c else c)=c by cases E j<;>rfl]
  exact Qus fun g' hg=>h g' (.tail _ hg)
theorem Qcv{l m:List Nat}{Zs:List (Nat×Ob)}{acc:List EC}{E:Nat→Bool}:Fz (l++m) Zs acc E=Fz l Zs acc E++Fz m Zs acc E:=XJ
theorem Qxk{l m:List (Nat×Ob)}:Y9 (l++m)=Y9 l++Y9 m:=JK
section
variable {P:Program} {Y:TX} {X:Cx} {K:List Con} {n:Nat} {l0:List Oper} {ds:List Nat} {R:Type} {r:R} {β:Nat→Nat} {ρ:Nat→Value} {a:Act} {w:World}
theorem Jkw{B:List En}{M Z:List (Nat×Ob)}(h:Rel X β ρ ⟨B,M++Z⟩ a w):Rel X β ρ ⟨Ja8 M B++B,M++Z⟩ a w:=by
 refine Rel.ofSb h rfl fun e he=>?_
 rcases QW.1 he with he | he
 ·obtain⟨e0,h0,rfl⟩:=Qcu he
  obtain⟨h1,h2⟩:=h.en h0
  refine⟨fun hc=>?_,h2⟩
  obtain⟨cs,q1,q2⟩:=h1 hc
  exact⟨cs,by rw[q1,Q1d],T3 (fun id o ho=>h.mm id o (Q0 ho)) q2⟩
 ·exact h.en he
theorem Q55(hT:Q4 P Y.T)(hmix:P.follows .mixedOrders=true)(hK:KsX P Y X K)(hX:X.n=n)(hr:X.res=[])(hp:X.pin=none){S:XS}(h:Rel X β ρ S.flat a w){p:Nat}{zs zf:List Nat}{ht:HT}
  (hb:Q8a l0 p ds=true) (hfx:(ds.all fun d=>Nv d S.fix)=true) {k:Hn→XS→Option R}
  (hs:dcI Y K n l0 p ds (Jm S.mem zs).2 (Jm S.fixM zf).2 (Jm S.mem zs).1 (Jm S.fixM zf).1 ht S (Ql7 S.env (ds++Cb ht)++S.fix) k=some r) {id:Nat} {Q:Exit→Act→World→Prop}
  (H:∀(β':Nat→Nat) (ρ':Nat→Value) (S':XS) (a':Act) (w':World) (h':Hn),k h' S'=some r→Y4 S S' β β' ρ ρ'→Rel X β' ρ' S'.flat a' w'→wpList P ⟨l0⟩ Q (l0.drop p) a' w'):(Code.region id ⟨l0⟩ true).wp P Q a w:=by
 have hm:=Zx zs S.mem
 have hf:=Zx zf S.fixM
 revert hs hm hf
 generalize (Jm S.mem zs).2=Z1
 generalize (Jm S.mem zs).1=M1
 generalize (Jm S.fixM zf).2=Z2
 generalize (Jm S.fixM zf).1=F1
 intro hs hm hf
 unfold dcI dcR at hs
 have hpm:S.flat.mem.Perm ((Z1++Z2)++(M1++F1)):=(hm.symm.append hf.symm).trans (Jmg Z1 M1 Z2 F1)
 have hBm:∀e∈Ql7 S.env (ds++Cb ht)++S.fix,e∈S.flat.env∧∀d∈ds,e.t≠d∧∀c∈e.cs,c.1≠d:=fun e he=>by
  rcases QW.1 he with he | he
  ·obtain⟨q1,q2⟩:=Qum he
   exact⟨QZ _ q1,fun d hd=>(q2 d (QZ _ hd)).2⟩
  ·exact⟨QV _ he,fun d hd=>Qcp (JN.1 hfx d hd) e he⟩
 have h1:Rel X β ρ ⟨Ql7 S.env (ds++Cb ht)++S.fix,(M1++F1)++(Z1++Z2)⟩ a w:=Rel.permM (Rel.less h fun e he=>(hBm e he).1) (hpm.trans XV)
 have h2:=Rel.permM (Jkw h1) (XV (l₁:=M1++F1) (l₂:=Z1++Z2))
 refine Q54 hT hmix hK hX hr hp (prB:=O6 (Ql7 S.env (ds++Cb ht)++S.fix)++Jb ((Z1++Z2)++(M1++F1))++S.prot) (Mb:=M1++F1) h2 (fun e he d hd _=>?_) (fun e he i hi=>?_) (fun i hi=>QZ _ (QV _ hi)) hb hs
  (fun hh hs0 acc hk=>?_) (fun i hi=>QZ _ (QZ _ hi)) fun β' ρ' a' w' hh hs0 acc hk hno hbT hag hR=>?_
 ·rcases QW.1 he with he | he
  ·obtain⟨e0,q1,rfl⟩:=Qcu he
   exact(hBm e0 q1).2 d hd
  ·exact(hBm e he).2 d hd
 ·refine QZ _ (QZ _ ?_)
  rcases QW.1 he with he | he
  ·obtain⟨e0,q1,rfl⟩:=Qcu he
   exact Q1a q1 (Qin hi)
  ·exact Q1a he hi
 ·have:=(bvT hk).1
  simp only[QQ]at this
  exact this.1
 ·obtain⟨hck,hk⟩:=bvT hk
  simp only[QQ]at hck
  obtain⟨hck,hkf⟩:=hck
  have hnd:(Y9 (Z1++Z2)).Nodup:=by
   unfold Jkm at hck
   simp only[QQ]at hck
   exact(ZJ.1 (R0 hck.1.1.1.2)).1
  refine H β' ρ' _ a' w' hh hk ⟨rfl,rfl,rfl,fun i hi=>hag i (QV _ hi)⟩ ?_
  have e2:Fz (Y9 Z2) (Z1++Z2) acc Wz=Z2:=by
   unfold Fz Y9
   rw[List.filterMap_map]
   refine(Y0 (f:=some) fun q hq=>?_).trans WV
   have hq2:q.1∈Y9 Z2:=QY.2 ⟨q,hq,rfl⟩
   have hl:=Qgp hnd q (QV _ hq)
   simp only[Function.comp,hl]
   rw[Qus fun g hg=>hno q.1 (fun hc hm2 hw=>C8 (JN.1 hkf hc hm2) hw hq2) g hg]
   rfl
  have e1:Fz (Y9 (Z1++Z2)++Kl hs0) (Z1++Z2) acc Wz=(Fz (Y9 Z1) (Z1++Z2) acc Wz++Z2)++Fz (Kl hs0) (Z1++Z2) acc Wz:=by
   rw[Qcv,Qxk,Qcv,e2]
  have e3:Fz (Y9 Z1++Kl hs0) (Z1++Z2) acc Wz=Fz (Y9 Z1) (Z1++Z2) acc Wz++Fz (Kl hs0) (Z1++Z2) acc Wz:=Qcv
  rw[e1]at hR
  have hperm:(((Fz (Y9 Z1) (Z1++Z2) acc Wz++Z2)++Fz (Kl hs0) (Z1++Z2) acc Wz)++(M1++F1)).Perm ((Fz (Y9 Z1++Kl hs0) (Z1++Z2) acc Wz++M1)++S.fixM):=by
   rw[e3]
   have p1:((Fz (Y9 Z1) (Z1++Z2) acc Wz++Z2)++Fz (Kl hs0) (Z1++Z2) acc Wz).Perm ((Fz (Y9 Z1) (Z1++Z2) acc Wz++Fz (Kl hs0) (Z1++Z2) acc Wz)++Z2):=by
    rw[QH,QH]
    exact List.Perm.append_left _ XV
   exact((p1.append_right _).trans (Jmg _ _ _ _)).trans (List.Perm.append_left _ hf)
  refine Rel.less (Rel.permM hR hperm) fun e he=>?_
  rcases QW.1 he with he | he
  ·rcases QW.1 he with he | he
   ·exact QZ _ he
   ·exact QV _ (QV _ (QZ _ he))
  ·exact QV _ (QV _ (QV _ he))
end
end Gx

/- Ranges over maps: what is set aside in a round; the entries that are left. -/
namespace Gx
open Go Go.RowKit Gd
set_option linter.unusedVariables false
set_option linter.unusedSimpArgs false
section
variable {P:Program} {Y:TX} {X:Cx} {β β':Nat→Nat} {ρ ρ':Nat→Value} {S S':St} {a a':Act} {w w':World} {Dx:List DF} {F:List TL}
def C9(X:Cx)(β:Nat→Nat)(ρ:Nat→Value)(S:St)(Dx:List DF)(F:List TL)(a:Act)(w:World):Prop :=
 Sb (fun _=>0) X [] (Dx++S.env.map (enD β ρ a)) [] (Qf β ρ S.mem++F) a w
abbrev okF(X:Cx)(β:Nat→Nat)(ρ:Nat→Value)(mem:List (Nat×Ob))(F:List TL)(w:World):Ok:=Je X.ok X.w.heap.size (fun _=>0) [] (Qf β ρ mem++F) w
theorem Q56{gl:List (Nat×Σ t:Ty,t.De)}(hG:Vr gl (okN X) X.w)(hr:X.res=[])(hp:X.pin=none)(h:C9 X β ρ S Dx F a w)(hV:Vd S.mem=true) :
    ∃X1:Cx,X1.n=X.n∧X1.res=[]∧X1.pin=none∧Vr gl (okN X1) X1.w∧Rel X1 β ρ S a w ∧
      ∀(β':Nat→Nat) (ρ':Nat→Value) (S':St) (a':Act) (w':World),Rel X1 β' ρ' S' a' w'→C9 X β' ρ' S' Dx F a' w':=by
  have hS:Sb (fun _=>0) X [] (Dx++S.env.map (enD β ρ a)) [] (Qf β ρ S.mem++F) a w:=h
  have hL1:∀t∈Qf β ρ S.mem,∀g,t.blks g→g∈Xq w.heap.size (Qf β ρ S.mem):=fun t ht g hg=>by
    unfold Xq
    exact JU.2 ⟨JT.2 (hS.olt (QZ _ ht) hg),by simp only[decide_eq_true_eq]; exact⟨t,ht,hg⟩⟩
  have hL2:∀g∈Xq w.heap.size (Qf β ρ S.mem),∃t∈Qf β ρ S.mem,t.blks g:=fun g hg=>by
    unfold Xq at hg
    have:=(JU.1 hg).2
    simpa only[decide_eq_true_eq]using this
  have hcov:∀t∈Qf β ρ S.mem,∀b o,t.blks b→t.cov b o:=fun t ht b o hb=>by
    obtain⟨q,hq,rfl⟩:=QY.1 ht
    exact T6 hV hq hb
  have hk:∀b f,Je X.ok X.w.heap.size (fun _=>0) [] (Qf β ρ S.mem++F) w b f→Je (okL (Xq w.heap.size (Qf β ρ S.mem)) (Je X.ok X.w.heap.size (fun _=>0) [] (Qf β ρ S.mem++F) w)) w.heap.size (fun _=>0) [] (Qf β ρ S.mem) w b f :=
    fun b f hbo=>⟨.inl (.inl hbo),hbo.2.1,by simp,fun t ht hc=>hbo.2.2.2 t (QZ _ ht) hc⟩
  refine⟨{ cxL (Xq w.heap.size (Qf β ρ S.mem)) X.n (Je X.ok X.w.heap.size (fun _=>0) [] (Qf β ρ S.mem++F) w) w with dfs:=X.dfs },rfl,rfl,rfl,?_,?_,fun β' ρ' S' a' w' hR=>?_⟩
  · exact(Lq hS hG).weak fun b f hbo=>⟨.inl hbo,fun hbl=>by
      obtain⟨t,ht,hg⟩:=hL2 b hbl
      exact hbo.2.2.2 t (QZ _ ht) (hcov t ht b f hg),hbo.2.1⟩
  · exact { sz:=hS.sz,df:=hS.df,fr:=by simp,pn:=by simp,tm:=by simp,bel:=Uc.refl _ _ _,obj:=by simp,dHH:=by simp,dHO:=by simp,
            dat:=Jf.2 fun x hx=>by
              obtain⟨e,he,rfl⟩:=QY.1 hx
              exact(enD β ρ a e).weak (Jf.1 hS.dat _ (QV _ (QY.2 ⟨e,he,rfl⟩))) hk,
            own:=fun t ht=>⟨t.weak (hS.own t (QZ _ ht)).1 hk,fun g hg=>.inr (hL1 t ht g hg)⟩,
            dOO:=(QM.1 hS.dOO).1 }
  · have hC:=Sb.callO (O1':=Qf β' ρ' S'.mem) hS hR.bel hL2 hcov (fun t ht=>⟨(hR.own t ht).1,fun g hg=>(hR.own t ht).2 g hg⟩) hR.dOO
    exact { sz:=hR.sz,df:=hR.df,fr:=by rw[hr]; simp,pn:=by rw[hp]; simp,tm:=by simp,bel:=hC.bel,obj:=by simp,own:=hC.own,dHH:=by simp,dHO:=by simp,dOO:=hC.dOO,
            dat:=Jf.2 fun x hx=>by
              rcases QW.1 hx with hx | hx
              · exact Jf.1 hC.dat _ (QZ _ hx)
              · obtain⟨e,he,rfl⟩:=QY.1 hx
                have h1:=Jf.1 hR.dat _ (QY.2 ⟨e,he,rfl⟩)
                exact(enD β' ρ' a' e).weak h1 fun b f hbf=>Ru hS hR.bel.size hL2 b f hbf }
theorem C9.en(h:C9 X β ρ S Dx F a w){e:En}(he:e∈S.env):(enD β ρ a e).p (okF X β ρ S.mem F w) w:=Jf.1 h.dat _ (QV _ (QY.2 ⟨e,he,rfl⟩))
theorem C9.act(h:C9 X β ρ S Dx F a w){env':List En}(hs:a'.tmps.size=a.tmps.size)(hd:a'.defers=a.defers)(hr:X.res=[])
  (he:∀e∈env',(enD β ρ a' e).p (okF X β ρ S.mem F w) w):C9 X β ρ ⟨env',S.mem⟩ Dx F a' w :=
 {sz:=hs.trans h.sz,df:=hd.trans h.df,fr:=by rw[hr]; simp,pn:=h.pn,tm:=by simp,bel:=h.bel,
  dat:=Jf.2 fun d hd=>by
   rcases QW.1 hd with hd | hd
   ·exact Jf.1 h.dat _ (QZ _ hd)
   ·obtain⟨e,hm,rfl⟩:=QY.1 hd; exact he e hm,
  obj:=h.obj,own:=h.own,dHH:=h.dHH,dHO:=h.dHO,dOO:=h.dOO }
theorem C9.en_put(h:C9 X β ρ S Dx F a w){d:Nat}(v:Value){e:En}(he:e∈Jr S.env d):(enD β ρ (a.put (some d) v) e).p (okF X β ρ S.mem F w) w:=by
 obtain⟨h1,h2,h3⟩:=Fv he
 have hcc:Jt (a.put (some d) v) e.cs↔Jt a e.cs:=⟨fun hc c hm=>by rw[←Y5 (h3 c hm) v]; exact hc c hm,fun hc c hm=>by rw[Y5 (h3 c hm) v]; exact hc c hm⟩
 refine⟨fun hc=>?_,?_⟩
 ·obtain⟨cs,h4,h5⟩:=(h.en h1).1 (hcc.1 hc)
  exact⟨cs,by rw[Qh1 h2]; exact h4,h5⟩
 ·rw[hcc,Qh1 h2]; exact(h.en h1).2
theorem C9.del(h:C9 X β ρ S Dx F a w)(hr:X.res=[]){d:Nat}(v:Value):C9 X β ρ ⟨Jr S.env d,S.mem⟩ Dx F (a.put (some d) v) w :=
 h.act (by simp[Act.put]) rfl hr fun e he=>h.en_put v he
theorem C9.put0(h:C9 X β ρ S Dx F a w)(hr:X.res=[]){d:Nat}(hd:okD X d=true){x:AV}{c:List Value}(hx:cr β ρ (okF X β ρ S.mem F w) w false x c):C9 X β ρ ⟨⟨d,[],x⟩::Jr S.env d,S.mem⟩ Dx F (a.put (some d) (x.val c)) w:=by
 refine h.act (by simp[Act.put]) rfl hr fun e he=>?_
 rcases QX.1 he with rfl | he
 ·refine⟨fun _=>⟨c,?_,hx⟩,.inl (Qc _)⟩
  rw[Lx (Rg hd)]
  simp[Act.put,h.sz,Tl hd]
 ·exact h.en_put _ he
def Ys(g:Nat)(o:Obj):TL where
 blks:=fun b=>b=g
 cov:=fun b _=>b=g
 cb:=fun h=>h
 p:=fun _ w=>w.heap[g]?=some o
 keep:=fun h hb _=>by rw[hb _ rfl]; exact h
 weak:=fun h _=>h
 lt:=fun h b hb=>by subst hb; exact Yg h
def Qfw{k v:Ty}(xs:List (k.De×v.De))(es:List MapEntry):DF where
 p:=fun ok w=>Xn (rt k) (rt v) ok w xs es
 evo:=fun h he=>W6 h he
 weak:=fun h hk=>Vo h hk
theorem Jby{k v:Ty}{xs:List (k.De×v.De)}{m:Nat}{env:List En}{M:List (Nat×Ob)}(h:Rel X β ρ ⟨env,(m,.map k v xs)::M⟩ a w)(hr:X.res=[]) :
  ∃es clock,w.heap[β m]?=some (.map es clock)∧(xs.map Prod.fst).Nodup∧(es.toList.map MapEntry.born).Nodup∧(∀e∈es.toList,e.born<clock)∧Xn (rt k) (rt v) (okR X β ρ ((m,.map k v xs)::M) w) w xs es.toList ∧
   ∀o:Obj,C9 X β ρ ⟨env,M⟩ [Qfw xs es.toList] [Ys (β m) (.map es clock),Ys w.heap.size o] a (w.alloc o):=by
 have hS:Sb (fun _=>0) X [] (env.map (enD β ρ a)) [] (Rl (β m) (rt k) (rt v) xs::Qf β ρ M) a w:=h
 obtain⟨⟨es,clock,q1,q2,q3,q4,q5⟩,hmine⟩:=hS.own _ (.head _)
 refine⟨es,clock,q1,q3,q4,q5,q2,fun o=>?_⟩
 have hbel:Below w.heap.size w (w.alloc o):=(Below.refl _ _).alloc (QB _) _
 have hevo:Evo (Je X.ok X.w.heap.size (fun _=>0) [] (Rl (β m) (rt k) (rt v) xs::Qf β ρ M) w) w (w.alloc o):=(Evo.of_below hbel).mono fun b o hk=>hk.2.1
 have hok:∀b f,Je X.ok X.w.heap.size (fun _=>0) [] (Rl (β m) (rt k) (rt v) xs::Qf β ρ M) w b f→Je X.ok X.w.heap.size (fun _=>0) [] (Qf β ρ M++[Ys (β m) (.map es clock),Ys w.heap.size o]) (w.alloc o) b f:=by
  rintro b f ⟨h1,h2,h3,h4⟩
  refine⟨h1,JG h2 hbel.size,h3,fun t ht hc=>?_⟩
  rcases QW.1 ht with ht | ht
  ·exact h4 t (.tail _ ht) hc
  ·rcases QX.1 ht with rfl | ht
   ·exact h4 _ (.head _) hc
   ·rcases QX.1 ht with rfl | ht
    ·have hc:b=w.heap.size:=hc
     omega
    ·cases ht
 have hlt:β m<w.heap.size:=Yg q1
 have hblk:∀g,g<w.heap.size→(w.alloc o).heap[g]?=w.heap[g]?:=fun g hg=>hbel.block g hg
 have hpw:=QG.1 hS.dOO
 refine { sz:=hS.sz,df:=hS.df,fr:=by rw[hr]; simp,pn:=hS.pn,tm:=by simp,bel:=hS.bel.trans (Uc.of _ (hbel.mono hS.bel.size)),obj:=by simp,dHH:=by simp,dHO:=by simp,dat:=?_,own:=?_,dOO:=?_ }
 ·refine Jf.2 fun x hx=>?_
  rcases QW.1 hx with hx | hx
  ·rw[JR]at hx
   subst hx
   exact Vo (W6 q2 hevo) hok
  ·exact x.weak (x.evo (Jf.1 hS.dat _ hx) hevo) hok
 ·intro t ht
  rcases QW.1 ht with ht | ht
  ·have h1:=hS.own t (.tail _ ht)
   exact⟨t.weak (t.keep h1.1 (fun g hg=>hblk g (t.lt h1.1 g hg)) hevo) hok,h1.2⟩
  ·rcases QX.1 ht with rfl | ht
   ·exact⟨by show(w.alloc o).heap[β m]?=_; rw[hblk _ hlt]; exact q1,hmine⟩
   ·rcases QX.1 ht with rfl | ht
    ·exact⟨heap_alloc_new w o,fun g hg=>.inl (by have hg:g=w.heap.size:=hg; rw[hg]; exact hS.bel.size)⟩
    ·cases ht
 ·refine QM.2 ⟨hpw.2,?_,fun t ht u hu g hg hg2=>?_⟩
  ·refine QG.2 ⟨fun u hu g hg hg2=>?_,XW _ _⟩
   rw[JR]at hu
   subst hu
   have hg:g=β m:=hg
   have hg2:g=w.heap.size:=hg2
   omega
  ·rcases QX.1 hu with rfl | hu
   ·exact hpw.1 t ht g hg2 hg
   ·rw[JR]at hu
    subst hu
    have hg2:g=w.heap.size:=hg2
    have:=t.lt (hS.own t (.tail _ ht)).1 g hg
    omega
theorem C9.unpin{k v:Ty}{xs:List (k.De×v.De)}{m r:Nat}{es:Array MapEntry}{clock:Nat}{o:Obj}(h:C9 X β ρ S [Qfw xs es.toList] [Ys (β m) (.map es clock),Ys r o] a w)(hn1:(xs.map Prod.fst).Nodup)
  (hn2:(es.toList.map MapEntry.born).Nodup) (hc:∀e∈es.toList,e.born<clock):Rel X β ρ ⟨S.env,(m,.map k v xs)::S.mem⟩ a w:=by
 have hS:Sb (fun _=>0) X [] ([Qfw xs es.toList]++S.env.map (enD β ρ a)) [] (Qf β ρ S.mem++[Ys (β m) (.map es clock),Ys r o]) a w:=h
 have hok:∀b f,Je X.ok X.w.heap.size (fun _=>0) [] (Qf β ρ S.mem++[Ys (β m) (.map es clock),Ys r o]) w b f→Je X.ok X.w.heap.size (fun _=>0) [] (Rl (β m) (rt k) (rt v) xs::Qf β ρ S.mem) w b f:=by
  rintro b f ⟨h1,h2,h3,h4⟩
  refine⟨h1,h2,h3,fun t ht hc=>?_⟩
  rcases QX.1 ht with rfl | ht
  ·exact h4 (Ys (β m) (.map es clock)) (QV _ (.head _)) hc
  ·exact h4 t (QZ _ ht) hc
 have hpw:=QM.1 hS.dOO
 have hpin:=hS.own (Ys (β m) (.map es clock)) (QV _ (.head _))
 have hmp:Xn (rt k) (rt v) _ w xs es.toList:=Jf.1 hS.dat (Qfw xs es.toList) (.head _)
 refine { sz:=hS.sz,df:=hS.df,fr:=hS.fr,pn:=hS.pn,tm:=by simp,bel:=hS.bel,obj:=by simp,dHH:=by simp,dHO:=by simp,dat:=?_,own:=?_,dOO:=?_ }
 ·exact Jf.2 fun x hx=>x.weak (Jf.1 hS.dat _ (QV _ hx)) hok
 ·intro t ht
  rcases QX.1 ht with rfl | ht
  ·exact⟨⟨es,clock,hpin.1,Vo hmp hok,hn1,hn2,hc⟩,hpin.2⟩
  ·have h1:=hS.own t (QZ _ ht)
   exact⟨t.weak h1.1 hok,h1.2⟩
 ·exact QG.2 ⟨fun t ht g hg hg2=>hpw.2.2 t ht _ (.head _) g hg2 hg,hpw.1⟩
theorem C9.setI{g r:Nat}{om o o':Obj}(h:C9 X β ρ S Dx [Ys g om,Ys r o] a w){w1:World}(hw:w1=w∨w1=w.drew):C9 X β ρ S Dx [Ys g om,Ys r o'] a (Go.ChangeMaps.setBlock w1 r o'):=by
 have hS:Sb (fun _=>0) X [] (Dx++S.env.map (enD β ρ a)) [] ((Qf β ρ S.mem++[Ys g om])++Ys r o::[]) a w:=by
  have e:(Qf β ρ S.mem++[Ys g om])++Ys r o::[]=Qf β ρ S.mem++[Ys g om,Ys r o]:=by simp
  rw[e]; exact h
 have hp:w.heap[r]?=some o:=(hS.own (Ys r o) (by simp)).1
 have hlt:=Yg hp
 have hheap:w1.heap=w.heap:=by rcases hw with rfl | rfl<;>rfl
 have:=Sb.upd (t':=Ys r o') (w':=Go.ChangeMaps.setBlock w1 r o') hS rfl (by rcases hw with rfl | rfl<;>rfl) (by rcases hw with rfl | rfl<;>rfl) (by rcases hw with rfl | rfl<;>rfl) (by simp[Go.ChangeMaps.setBlock,hheap])
  (fun b hb hn=>by
   have hn:¬ b=r:=hn
   simp only[Go.ChangeMaps.setBlock,hheap]
   rw[Array.getElem?_setIfInBounds_ne (fun e=>hn e.symm)]) (fun b o hb=>hb) (fun g hg=>.inl hg)
  (fun _ _=>by
   show(Go.ChangeMaps.setBlock w1 r o').heap[r]?=some o'
   simp[Go.ChangeMaps.setBlock,hheap,hlt])
 have e:(Qf β ρ S.mem++[Ys g om])++Ys r o'::[]=Qf β ρ S.mem++[Ys g om,Ys r o']:=by simp
 rw[e]at this
 exact this
end
theorem Jbz{ε σ τ:Type}{f:ε→σ→Option (σ⊕τ)}{e:ε}{s:σ}:Rt f [e] s=f e s:=by
 simp only[Rt]
 split<;>simp_all
theorem Q1j{ε σ τ:Type}{f:ε→σ→Option (σ⊕τ)}{l:List ε}{s:σ}{z:σ⊕τ}(h:Qw2 f l s=some z):∀ys:List ε,ys.Perm l→Rt f ys s=some z:=by
 intro ys hp
 match l,h with
 | [],h =>
  have:=hp.eq_nil
  subst this
  exact h
 | [e],h =>
  have:=List.perm_singleton.1 hp
  subst this
  rw[Jbz]; exact h
 | e::e'::l,h =>
  simp only[Qw2,Q0l]at h
  split at h
  ·rename_i hc
   rw[hc ys hp]; exact h
  ·cases h
def Fg{κ:Type}:List MapEntry→List κ→Array Nat→List κ
 | e::es,x::xs,seen=>bif seen.contains e.born then Fg es xs seen else x::Fg es xs seen
 | _,_,_=>[]
theorem Qmd{κ:Type}:∀{es:List MapEntry} {xs:List κ},es.length=xs.length→Fg es xs #[]=xs
 | [],[],_=>rfl
 | e::es,x::xs,h=>by
  simp only[Fg]
  rw[Qmd (es:=es) (xs:=xs) (by simpa using h)]
  simp
 | [],_::_,h=>by simp at h
 | _::_,[],h=>by simp at h
theorem Qut{κ:Type}{b:Nat}{seen:Array Nat}:∀{es:List MapEntry} {xs:List κ},(∀e∈es,e.born≠b)→Fg es xs (seen.push b)=Fg es xs seen
 | [],xs,_=>by simp[Fg]
 | e::es,[],_=>by simp[Fg]
 | e::es,x::xs,h=>by
  have h1:(seen.push b).contains e.born=seen.contains e.born:=by
   have:=h e (.head _)
   rw[VI]
   simp[this]
  simp only[Fg,h1]
  rw[Qut fun e he=>h e (.tail _ he)]
theorem Qqy{κ:Type}{e:MapEntry}{seen:Array Nat}:∀{es:List MapEntry} {xs:List κ},es.length=xs.length→(es.map MapEntry.born).Nodup→e∈es→seen.contains e.born=false →
  ∃x,(e,x)∈es.zip xs∧(Fg es xs seen).Perm (x::Fg es xs (seen.push e.born))
 | [],_,_,_,he,_=>by cases he
 | e0::es,[],h,_,_,_=>by simp at h
 | e0::es,x0::xs,h,hn,he,hs=>by
  have hn':e0.born∉es.map MapEntry.born∧(es.map MapEntry.born).Nodup:=JA.1 hn
  rcases QX.1 he with rfl | he
  ·refine⟨x0,.head _,?_⟩
   have h1:(seen.push e.born).contains e.born=true:=by simp
   simp only[Fg,hs,h1,cond_true,cond_false]
   rw[Qut fun e' he' hb=>hn'.1 (QY.2 ⟨e',he',hb⟩)]
  ·obtain⟨x,h1,h2⟩:=Qqy (xs:=xs) (by simpa using h) hn'.2 he hs
   refine⟨x,.tail _ h1,?_⟩
   have hne:e0.born≠e.born:=fun hb=>hn'.1 (QY.2 ⟨e,he,hb.symm⟩)
   have h3:(seen.push e.born).contains e0.born=seen.contains e0.born:=by
    rw[VI]
    simp[hne]
   simp only[Fg,h3]
   cases seen.contains e0.born with
   | true=>simpa using h2
   | false =>
    simp only[cond_false]
    exact(h2.cons x0).trans (List.Perm.swap _ _ _)
theorem Qqz{es:Array MapEntry}{seen:Array Nat}{e:MapEntry}(h:e∈(leftOf es seen).toList):e∈es.toList∧seen.contains e.born=false:=by
 unfold leftOf at h
 simp at h
 exact⟨by simpa using h.1,by simpa using h.2⟩
theorem Qq0{κ:Type}{seen:Array Nat}:∀{es:List MapEntry} {xs:List κ},(∀e∈es,seen.contains e.born=true)→Fg es xs seen=[]
 | [],_,_=>by simp[Fg]
 | _::_,[],_=>by simp[Fg]
 | e::es,x::xs,h=>by
  simp only[Fg,h e (.head _),cond_true]
  exact Qq0 fun e he=>h e (.tail _ he)
theorem Q1k{es:Array MapEntry}{seen:Array Nat}(h:(leftOf es seen).size=0):∀e∈es.toList,seen.contains e.born=true:=by
 intro e he
 unfold leftOf at h
 have h0:=Array.eq_empty_of_size_eq_zero h
 rw[Array.filter_eq_empty_iff]at h0
 have:=h0 e (by simpa using he)
 simpa using this
theorem Q1l{es:Array MapEntry}{seen:Array Nat}{e:MapEntry}(h:e∈(leftOf es seen).toList):(leftOf es (seen.push e.born)).size<(leftOf es seen).size:=by
 obtain⟨h1,h2⟩:=Qqz h
 have hs:∀s:Array Nat,(leftOf es s).size=(es.toList.filter fun x=>!s.contains x.born).length:=fun s=>by
  unfold leftOf
  rw[←Array.toList_filter,XR]
 rw[hs,hs]
 refine filter_lt (fun x=>!seen.contains x.born) (fun x=>!(seen.push e.born).contains x.born) (fun x hx=>?_) e (by rw[h2]; rfl) (by simp) _ h1
 simp at hx ⊢
 exact hx.1
theorem Q1m{k v:Ty}{ok:Ok}{w:World}:∀{xs:List (k.De×v.De)} {es:List MapEntry},Xn (rt k) (rt v) ok w xs es→es.length=xs.length
 | [],es,h=>by have h:es=[]:=h; subst h; rfl
 | x::xs,es,⟨e,es',h,_,_,h3⟩=>by subst h; simp[Q1m h3]
theorem Q1n{k v:Ty}{ok:Ok}{w:World}:∀{xs:List (k.De×v.De)} {es:List MapEntry},Xn (rt k) (rt v) ok w xs es→∀q∈es.zip xs,isV (rt k) ok w q.2.1 q.1.key∧isV (rt v) ok w q.2.2 q.1.val
 | [],es,h,q,hq=>by simp at hq
 | x::xs,es,⟨e,es',h,h1,h2,h3⟩,q,hq=>by
  subst h
  rcases QX.1 hq with rfl | hq
  ·exact⟨h1,h2⟩
  ·exact Q1n h3 q hq
end Gx
