/- One operation, with the rest of the state set aside. -/
import Derived.Test.YtjjpjagokgfbdaaGreatXO
import Derived.Test.YtjjpjagokgfbdaaGreatXH
import Derived.Maps.RangeRun
namespace Gx
open Go Go.RowKit Gd
set_option linter.unusedVariables false
set_option linter.unusedSimpArgs false
theorem T8{β:Nat→Nat}{ρ:Nat→Value}:∀{M:List (Nat×Ob)} {q:Nat×Ob},Vg M=true→q∈M→∀{b o:Nat},(Qx β ρ q.1 q.2).blks b→(Qx β ρ q.1 q.2).cov b o
 | (k,ob)::l,q,h,hq,b,o,hb=>by
  cases ob with
  | tail e t xs=>cases h
  | _ =>
   rcases QX.1 hq with rfl | hq
   ·exact hb
   ·exact T8 (M:=l) h hq hb
def Jml(o:Oper)(a a':Act):Prop:=∀t,o.dst≠some t→a'.tmps[t]?=a.tmps[t]?
def Jmm(o:Oper)(a:Act)(Q:Exit→Act→World→Prop):Exit→Act→World→Prop
 | .normal,a',w'=>Jml o a a'→Q .normal a' w'
 | e,a',w'=>Q e a' w'
theorem Lu(o:Oper)(a:Act)(v:Value):Jml o a (a.put o.dst v):=by
 intro t ht
 cases hd:o.dst with
 | none=>rfl
 | some d=>exact Y7 (fun e=>ht (by rw[hd,e])) v
theorem Q1p{P:Program}{ops:Array Oper}{Q:Exit→Act→World→Prop}{o:Oper}{a:Act}{w:World}(h:wpList P ops (Jmm o a Q) [o] a w):wpList P ops Q [o] a w:=by
 unfold wpList at h ⊢
 split at h
 ·rename_i hw
  rw[if_pos hw]
  rcases h with h | ⟨h1,h2⟩
  ·left
   unfold Oper.wp at h ⊢
   cases hr:(execOp a.eval o).run P w with
   | ok nx w' =>
    rw[hr]at h
    cases nx with
    | value v=>exact h (Lu o a v)
    | skip=>exact h (Lu o a undef)
    | defer d =>
     refine h fun t ht=>?_
     have:=Lu o { a with defers:=d::a.defers } undef t ht
     exact this
    | enter f args =>
     refine Calls.mono h fun e w' he=>?_
     cases e with
     | returned v=>exact he (Lu o a v)
     | panicked c=>exact he
     | outgrown=>exact he
    | row r args=>exact Rows.mono h fun v w' hv=>hv (Lu o a v)
    | _=>exact h.elim
   | halt hl w' =>
    rw[hr]at h
    cases hl with
    | panic v=>exact h
    | _=>exact h.elim
  ·exact .inr ⟨h1,h2⟩
 ·rename_i hw
  rw[if_neg hw]
  exact h (Lu o a undef)
open Classical in
noncomputable def Xt(n:Nat)(O:List TL):List Nat:=(List.range n).filter fun g=>decide (∃t∈O,t.blks g)
section
variable {P:Program} {Y:TX} {X:Cx} {β:Nat→Nat} {ρ:Nat→Value} {a:Act} {w:World} {ops:Array Oper} {Q:Exit→Act→World→Prop} {o:Oper}
theorem Jgn(hG:Vs Y.gl (okN X) X.w)(hr:X.res=[])(hp:X.pin=none){Ve Fe:List En}{Vm Fm:List (Nat×Ob)}{S1:St}{pr:List Nat}(h:Rel X β ρ ⟨Ve++Fe,Vm++Fm⟩ a w)(hV:Vg Vm=true)
    (hF:∀e∈Fe,(∀i∈Jb e.av,i∈pr)∧∀d,o.dst=some d→e.t≠d∧∀c∈e.cs,c.1≠d) (hFm:∀i∈Jc Fm,i∈pr)
    (u9:∀(X1:Cx) (Q1:Exit→Act→World→Prop),X1.n=X.n→X1.res=[]→X1.pin=none→Vs Y.gl (okN X1) X1.w→Rel X1 β ρ ⟨Ve,Vm⟩ a w→(∀β' ρ' a' w',agP pr β β' ρ ρ'→Rel X1 β' ρ' S1 a' w'→Q1 .normal a' w')→wpList P ops Q1 [o] a w)
    (H:∀β' ρ' a' w',agP pr β β' ρ ρ'→Rel X β' ρ' ⟨S1.env++Fe,S1.mem++Fm⟩ a' w'→Q .normal a' w'):wpList P ops Q [o] a w:=by
  have eM:Qg β ρ (Vm++Fm)=Qg β ρ Vm++Qg β ρ Fm:=JK
  have hS:Sb (fun _=>0) X [] ((Ve++Fe).map (enD β ρ a)) [] (Qg β ρ Vm++Qg β ρ Fm) a w:=by rw[←eM]; exact h
  have hL1:∀t∈Qg β ρ Vm,∀g,t.blks g→g∈Xt w.heap.size (Qg β ρ Vm):=fun t ht g hg=>by
    unfold Xt
    exact JJ.2 ⟨JT.2 (hS.olt (QZ _ ht) hg),by simp only[decide_eq_true_eq]; exact⟨t,ht,hg⟩⟩
  have hL2:∀g∈Xt w.heap.size (Qg β ρ Vm),∃t∈Qg β ρ Vm,t.blks g:=fun g hg=>by
    unfold Xt at hg
    have:=(JJ.1 hg).2
    simpa only[decide_eq_true_eq]using this
  have xz:∀t∈Qg β ρ Vm,∀b o,t.blks b→t.cov b o:=fun t ht b o hb=>by
    obtain⟨q,hq,rfl⟩:=QY.1 ht
    exact T8 hV hq hb
  have hk:∀b f,Jf X.ok X.w.heap.size (fun _=>0) [] (Qg β ρ Vm++Qg β ρ Fm) w b f→Jf (okL (Xt w.heap.size (Qg β ρ Vm)) (Jf X.ok X.w.heap.size (fun _=>0) [] (Qg β ρ Vm++Qg β ρ Fm) w)) w.heap.size (fun _=>0) [] (Qg β ρ Vm) w b f :=
    fun b f kn=>⟨.inl (.inl kn),kn.2.1,by simp,fun t ht hc=>kn.2.2.2 t (QZ _ ht) hc⟩
  refine Q1p (u9 { cxL (Xt w.heap.size (Qg β ρ Vm)) X.n (Jf X.ok X.w.heap.size (fun _=>0) [] (Qg β ρ Vm++Qg β ρ Fm) w) w with dfs:=X.dfs } (Jmm o a Q) rfl rfl rfl ?_ ?_ fun β' ρ' a' w' xg hR zn=>?_)
  · exact(Lt hS hG).weak fun b f kn=>⟨.inl kn,fun xy=>by
      obtain⟨t,ht,hg⟩:=hL2 b xy
      exact kn.2.2.2 t (QZ _ ht) (xz t ht b f hg),kn.2.1⟩
  · exact { sz:=hS.sz,df:=hS.df,fr:=by simp,pn:=by simp,tm:=by simp,bel:=Ud.refl _ _ _,obj:=by simp,dHH:=by simp,dHO:=by simp,
            dat:=Jg.2 fun x hx=>by
              obtain⟨e,he,rfl⟩:=QY.1 hx
              exact(enD β ρ a e).weak (Jg.1 hS.dat _ (QY.2 ⟨e,QZ _ he,rfl⟩)) hk,
            own:=fun t ht=>⟨t.weak (hS.own t (QZ _ ht)).1 hk,fun g hg=>.inr (hL1 t ht g hg)⟩,
            dOO:=(QM.1 hS.dOO).1 }
  · have hC:=Sb.callO (O1':=Qg β' ρ' S1.mem) hS hR.bel hL2 xz (fun t ht=>⟨(hR.own t ht).1,fun g hg=>(hR.own t ht).2 g hg⟩) hR.dOO
    have u6:Xc (Qg β ρ Fm) (Qg β' ρ' Fm):=Qup fun i hi=>xg i (hFm i hi)
    have hC2:=hC.simO ((Xc.refl (Qg β' ρ' S1.mem)).append u6)
    have ke:Qg β' ρ' (S1.mem++Fm)=Qg β' ρ' S1.mem++Qg β' ρ' Fm:=JK
    have hC3:Sb (fun _=>0) X [] [] [] (Qg β' ρ' S1.mem++Qg β' ρ' Fm) a' w' :=
      { sz:=hR.sz,df:=hR.df,fr:=by rw[hr]; simp,pn:=by rw[hp]; simp,tm:=by simp,bel:=hC2.bel,dat:=trivial,obj:=by simp,own:=hC2.own,dHH:=by simp,dHO:=by simp,dOO:=hC2.dOO }
    refine H β' ρ' a' w' xg (Rel.ofSb hC3 ke.symm fun e he=>?_)
    rcases QW.1 he with he | he
    · have h1:=Jg.1 hR.dat _ (QY.2 ⟨e,he,rfl⟩)
      refine(enD β' ρ' a' e).weak h1 fun b f hbf=>?_
      have h2:=Rx hS hR.bel.size hL2 b f hbf
      have h3:=((Xc.refl (Qg β' ρ' S1.mem)).append u6).ok b f h2
      unfold okR
      rw[ke]
      exact h3
    · have h1:=Jg.1 hC2.dat _ (QY.2 ⟨e,QV _ he,rfl⟩)
      obtain⟨hi,hd⟩:=hF e he
      have ht:∀t,(∀d,o.dst=some d→t≠d)→a'.tmps[t]?=a.tmps[t]?:=fun t ht=>zn t fun hd=>ht t hd rfl
      have yg:Ju a' e.cs↔Ju a e.cs:=⟨fun hc c hm=>by rw[←ht _ fun d vh=>(hd d vh).2 c hm]; exact hc c hm,fun hc c hm=>by rw[ht _ fun d vh=>(hd d vh).2 c hm]; exact hc c hm⟩
      have l9:rd a' e.t=rd a e.t:=by unfold rd; rw[ht _ fun d vh=>(hd d vh).1]
      refine⟨fun hc=>?_,?_⟩
      · obtain⟨cs,q1,q2⟩:=h1.1 (yg.1 hc)
        refine⟨cs,by rw[l9]; exact q1,?_⟩
        unfold okR
        rw[ke]
        exact Gc (fun i hm=>xg i (hi i hm)) q2
      · rw[yg,l9]; exact h1.2
end
end Gx

/- Regions of open order by ordinary steps: what is found, what is one's own. -/
namespace Gx
open Go Go.RowKit Gd
set_option linter.unusedVariables false
set_option linter.unusedSimpArgs false
theorem Q6a{id:Nat}{e:EC}{c:Option Ob}(h:Zk id e=false):upC id e c=c:=by
 unfold Zk at h
 unfold upC
 cases hl:Qmd e.ups id with
 | none=>rfl
 | some x=>rw[hl]at h; cases h
theorem N9{E:Nat→Bool}{id:Nat}:∀{l1 l2:List EC} {j:Nat} {c:Option Ob},Ys E id (l1++l2) j c=Ys E id l2 (j+l1.length) (Ys E id l1 j c)
 | [],l2,j,c=>rfl
 | e::l1,l2,j,c=>by
  simp only[QA,Ys,N9 (l1:=l1),JI]
  rw[show j+1+l1.length=j+(l1.length+1) by omega]
theorem Md{E E':Nat→Bool}{id:Nat}:∀{l:List EC} {j:Nat} {c:Option Ob},(∀(k:Nat) e,l[k]?=some e→Zk id e=true→E (j+k)=E' (j+k))→Ys E id l j c=Ys E' id l j c
 | [],j,c,_=>rfl
 | e0::l,j,c,h=>by
  simp only[Ys]
  have e:(bif E j then upC id e0 c else c)=(bif E' j then upC id e0 c else c):=by
   cases ht:Zk id e0 with
   | true=>rw[show E j=E' j from h 0 _ rfl ht]
   | false=>rw[Q6a ht]; cases E j<;>cases E' j<;>rfl
  rw[e]
  exact Md fun k g hk ht=>by
   have:=h (k+1) g (by simpa using hk) ht
   rw[show j+1+k=j+(k+1) by omega]; exact this
theorem Lv{E:Nat→Bool}{id:Nat}:∀{l:List EC} {j:Nat} {c:Option Ob},(∀(k:Nat) e,l[k]?=some e→Zk id e=true→E (j+k)=false)→Ys E id l j c=c
 | [],j,c,_=>rfl
 | e0::l,j,c,h=>by
  simp only[Ys]
  have e:(bif E j then upC id e0 c else c)=c:=by
   cases ht:Zk id e0 with
   | true=>rw[show E j=false from h 0 _ rfl ht]; rfl
   | false=>rw[Q6a ht]; cases E j<;>rfl
  rw[e]
  exact Lv fun k g hk ht=>by
   have:=h (k+1) g (by simpa using hk) ht
   rw[show j+1+k=j+(k+1) by omega]; exact this
theorem Q1q{acc:List EC}{i:Nat}{g:EC}(hg:acc[i]?=some g):acc=acc.take i++g::acc.drop (i+1)∧(acc.take i).length=i:=by
 have hi:i<acc.length:=(QK.1 hg).1
 rw[QU hi]at hg
 injection hg with hg
 refine⟨?_,by rw[QO]; omega⟩
 rw[←hg,←XY hi,JH]
section
variable {E:Nat→Bool} {acc:List EC} {i id:Nat} {g:EC} {c:Option Ob}
theorem Jgo(hg:acc[i]?=some g)(hi:E i=false)(he:∀(j:Nat) g',acc[j]?=some g'→j<i→Zk id g'=true→E j=true)(hl:∀(j:Nat) g',acc[j]?=some g'→i<j→Zk id g'=true→E j=false) :
  Ys E id acc 0 c=Ys W6 id (acc.take i) 0 c:=by
 obtain⟨e1,e2⟩:=Q1q hg
 have e3:Ys E id acc 0 c=Ys E id (acc.take i++g::acc.drop (i+1)) 0 c:=by rw[←e1]
 rw[e3,N9,e2,QE]
 simp only[Ys,hi,cond_false]
 rw[Lv fun k g' hk ht=>hl (i+1+k) g' (by rw[JZ]at hk; exact hk) (by omega) ht]
 refine Md fun k g' hk ht=>?_
 rw[JD]at hk
 split at hk
 ·rw[QE,he k g' hk (by omega) ht]; rfl
 ·cases hk
theorem Jgp(hg:acc[i]?=some g)(hi:E i=false)(hl:∀(j:Nat) g',acc[j]?=some g'→i<j→Zk id g'=true→E j=false) :
  Ys (T4 E i) id acc 0 c=upC id g (Ys E id acc 0 c):=by
 obtain⟨e1,e2⟩:=Q1q hg
 have e3:∀E,Ys E id acc 0 c=Ys E id (acc.take i++g::acc.drop (i+1)) 0 c:=fun E=>by rw[←e1]
 rw[e3,e3,N9,N9,e2,QE]
 simp only[Ys,hi,cond_false,BEq.rfl,Bool.true_or,cond_true]
 have h1:Ys (T4 E i) id (acc.take i) 0 c=Ys E id (acc.take i) 0 c:=Md fun k g' hk ht=>by
  have:k<i:=by
   rw[JD]at hk
   split at hk
   ·assumption
   ·cases hk
  simp only[T4,QE]
  rw[show(k==i)=false by simp; omega]; rfl
 have h2:∀c',Ys (T4 E i) id (acc.drop (i+1)) (i+1) c'=c':=fun c'=>Lv fun k g' hk ht=>by
  simp only[T4]
  rw[show(i+1+k==i)=false by simp; omega]
  exact hl (i+1+k) g' (by rw[JZ]at hk; exact hk) (by omega) ht
 have h3:∀c',Ys E id (acc.drop (i+1)) (i+1) c'=c':=fun c'=>Lv fun k g' hk ht=>hl (i+1+k) g' (by rw[JZ]at hk; exact hk) (by omega) ht
 rw[h2,h3,h1]
 simp only[T4,BEq.rfl,Bool.true_or,cond_true]
theorem Jgq(hg:acc[i]?=some g)(ht:Zk id g=false):Ys (T4 E i) id acc 0 c=Ys E id acc 0 c :=
 Md fun k g' hk zb=>by
  rw[QE]
  by_cases e:k=i
  ·subst e
   rw[hg]at hk; injection hk with hk; subst hk
   rw[ht]at zb; cases zb
  ·simp only[T4]
   rw[show(k==i)=false by simp; omega]; rfl
theorem Qiu{E:Nat→Bool}:∀{acc:List EC} {j:Nat} {e:En},e∈Id E acc j→∃(k:Nat) (g:EC),acc[k]?=some g∧E (j+k)=true∧g.has=true∧e=⟨g.d,[],g.av⟩
 | [],j,e,h=>by cases h
 | g::l,j,e,h=>by
  simp only[Id]at h
  cases hb:(E j&&g.has)with
  | true =>
   rw[hb]at h
   simp only[QQ]at hb
   rcases QX.1 h with rfl | h
   ·exact⟨0,g,rfl,hb.1,hb.2,rfl⟩
   ·obtain⟨k,g',h1,h2,h3,h4⟩:=Qiu h
    exact⟨k+1,g',by simpa using h1,by rw[show j+(k+1)=j+1+k by omega]; exact h2,h3,h4⟩
  | false =>
   rw[hb]at h
   obtain⟨k,g',h1,h2,h3,h4⟩:=Qiu h
   exact⟨k+1,g',by simpa using h1,by rw[show j+(k+1)=j+1+k by omega]; exact h2,h3,h4⟩
theorem Qxq{E:Nat→Bool}:∀{acc:List EC} {j k:Nat} {g:EC},acc[k]?=some g→E (j+k)=true→g.has=true→(⟨g.d,[],g.av⟩:En)∈Id E acc j
 | [],j,k,g,h,_,_=>by simp at h
 | g0::l,j,0,g,h,h1,h2=>by
  simp at h; subst h
  simp only[Id]
  rw[show(E j&&g0.has)=true by rw[show E j=true from h1,h2]; rfl]
  exact .head _
 | g0::l,j,k+1,g,h,h1,h2=>by
  have:=Qxq (acc:=l) (j:=j+1) (k:=k) (by simpa using h) (by rw[show j+1+k=j+(k+1) by omega]; exact h1) h2
  simp only[Id]
  cases(E j&&g0.has)with
  | true=>exact .tail _ this
  | false=>exact this
end
theorem Jb2{ids:List Nat}:∀{names:List Nat},ids.Nodup→names.Nodup→(∀i∈ids,i∈names)→names.Perm (ids++names.filter fun i=>!Yb ids i):=by
 induction ids with
 | nil =>
  intro names _ _ _
  have:(names.filter fun i=>!Yb [] i)=names:=List.filter_eq_self.2 fun _ _=>rfl
  rw[this]
  exact List.Perm.refl _
 | cons x ids ih =>
  intro names hi hn hs
  have mr:=JA.1 hi
  obtain⟨l1,l2,rfl⟩:=List.append_of_mem (hs x (.head _))
  have hn2:(l1++l2).Nodup∧x∉l1++l2:=by
   have:=(List.perm_middle.nodup_iff (l₁:=l1++x::l2)).1 hn
   exact⟨(JA.1 this).2,(JA.1 this).1⟩
  have h1:=ih (names:=l1++l2) mr.2 hn2.1 fun i nw=>by
   have:=hs i (.tail _ nw)
   rcases QW.1 this with h | h
   ·exact QZ _ h
   ·rcases QX.1 h with rfl | h
    ·exact absurd nw mr.1
    ·exact QV _ h
  have e:((l1++x::l2).filter fun i=>!Yb (x::ids) i)=(l1++l2).filter fun i=>!Yb ids i:=by
   have hf:∀l:List Nat,x∉l→(l.filter fun i=>!Yb (x::ids) i)=l.filter fun i=>!Yb ids i:=fun l hx=>by
    refine List.filter_congr fun i nw=>?_
    have k8:x≠i:=fun e=>hx (e▸nw)
    simp only[Yb,Jpl k8,KC]
   rw[List.filter_append,XV]
   have nt:(!Yb (x::ids) x)=false:=by simp[Yb,JY]
   rw[nt]
   simp only[XQ,if_false]
   rw[hf l1 fun h=>hn2.2 (QZ _ h),hf l2 fun h=>hn2.2 (QV _ h),List.filter_append]
  rw[e]
  exact XK.trans (List.Perm.cons x h1)
end Gx

/- One operation of a region of open order, by an ordinary step. -/
namespace Gx
open Go Go.RowKit Gd
set_option linter.unusedVariables false
set_option linter.unusedSimpArgs false
theorem Qkq:∀{ids:List Nat} {M:List (Nat×Ob)},ids.Nodup→(Jn M ids).2=ids.filterMap fun t=>Zx t (Qe M t)
 | [],M,_=>rfl
 | t::ts,M,hn=>by
  have wj:=JA.1 hn
  simp only[Jn,XH]
  cases hl:Qe M t with
  | none=>simp only[Zx]; exact Qkq wj.2
  | some o =>
   simp only[Zx]
   rw[Qkq (M:=Jv M t) wj.2]
   congr 1
   exact Y3 fun j hj=>by rw[Qqg fun(e:j=t)=>wj.1 (by rw[←e]; exact hj)]; cases Qe M j<;>rfl
theorem R5{f:Nat→Option Ob}{id:Nat}:∀{ids:List Nat},Qmd (ids.map fun i=>(i,f i)) id=if id∈ids then some (f id)else none
 | []=>rfl
 | k::l=>by
  simp only[JW,Qmd]
  cases hb:Nat.beq k id with
  | true =>
   have:=QJ hb
   subst this
   simp
  | false =>
   have k8:id≠k:=fun e=>by subst e; simp[JY]at hb
   simp only[cond_false,R5 (ids:=l),QX,k8,false_or]
section
variable {P:Program} {Y:TX} {X:Cx} {β:Nat→Nat} {ρ:Nat→Value} {a:Act} {w:World} {ops:Array Oper} {Q:Exit→Act→World→Prop} {o:Oper}
theorem Jgr(hG:Vs Y.gl (okN X) X.w)(hr:X.res=[])(hp:X.pin=none){names:List Nat}{Zs Mb:List (Nat×Ob)}{acc:List EC}{E:Nat→Bool}{B Ve:List En}{i:Nat}{g:EC}{tch ro bs pr:List Nat}{S1:XS}
  (h:Rel X β ρ ⟨Id E acc 0++B,F2 names Zs acc E++Mb⟩ a w) (hg:acc[i]?=some g) (hi:E i=false) (ey:names.Nodup) (ye:(tch++ro++bs).Nodup) (uf:∀id∈tch++ro++bs,id∈names)
  (su:∀id∈tch++ro,∀(j:Nat) g',acc[j]?=some g'→j<i→Zk id g'=true→E j=true) (ta:∀id∈tch++ro++bs,∀(j:Nat) g',acc[j]?=some g'→i<j→Zk id g'=true→E j=false)
  (lg:∀id∈bs,Ys E id acc 0 (Qe Zs id)=none) (hVe:∀e∈Ve,e∈Id E acc 0++B) (hups:g.ups=(tch++bs).map fun id=>(id,Qe S1.mem id)) (hgd:g.has=true→∃cs,(⟨g.d,cs,g.av⟩:En)∈S1.env∧cs=[]) (fo:∀d,o.dst=some d→d=g.d)
  (hnt:Vg ((tch.filterMap fun id=>Zx id (Ys W6 id (acc.take i) 0 (Qe Zs id)))++ro.filterMap fun id=>Zx id (Ys W6 id (acc.take i) 0 (Qe Zs id)))=true)
  (hF:∀e∈Id E acc 0++B,(∀i∈Jb e.av,i∈pr)∧∀d,o.dst=some d→e.t≠d∧∀c∈e.cs,c.1≠d) (hFm:∀id∈Jc (((names.filter fun j=>!Yb (tch++ro++bs) j).filterMap fun id=>Zx id (Ys E id acc 0 (Qe Zs id)))++Mb),id∈pr)
  (u9:∀(X1:Cx) (Q1:Exit→Act→World→Prop),X1.n=X.n→X1.res=[]→X1.pin=none→Vs Y.gl (okN X1) X1.w→Rel X1 β ρ ⟨Ve,(tch.filterMap fun id=>Zx id (Ys W6 id (acc.take i) 0 (Qe Zs id)))++ro.filterMap fun id=>Zx id (Ys W6 id (acc.take i) 0 (Qe Zs id))⟩ a w→(∀β' ρ' a' w',agP pr β β' ρ ρ'→Rel X1 β' ρ' ⟨S1.env,S1.mem++(ro.filterMap fun id=>Zx id (Ys W6 id (acc.take i) 0 (Qe Zs id)))⟩ a' w'→Q1 .normal a' w')→wpList P ops Q1 [o] a w)
  (H:∀β' ρ' a' w',agP pr β β' ρ ρ'→Rel X β' ρ' ⟨Id (T4 E i) acc 0++B,F2 names Zs acc (T4 E i)++Mb⟩ a' w'→Q .normal a' w'):wpList P ops Q [o] a w:=by
 have vq:=Jb2 ye ey uf
 have hnow:∀id∈tch++ro,Ys E id acc 0 (Qe Zs id)=Ys W6 id (acc.take i) 0 (Qe Zs id):=fun id hm=>Jgo hg hi (su id hm) (ta id (QZ _ hm))
 have hT:(tch.filterMap fun id=>Zx id (Ys E id acc 0 (Qe Zs id)))=tch.filterMap fun id=>Zx id (Ys W6 id (acc.take i) 0 (Qe Zs id)):=(Y3 fun id hm=>by rw[hnow id (QZ _ hm)])
 have hR:(ro.filterMap fun id=>Zx id (Ys E id acc 0 (Qe Zs id)))=ro.filterMap fun id=>Zx id (Ys W6 id (acc.take i) 0 (Qe Zs id)):=(Y3 fun id hm=>by rw[hnow id (QV _ hm)])
 have hB0:(bs.filterMap fun id=>Zx id (Ys E id acc 0 (Qe Zs id)))=[]:=by
  rw[VZ]
  intro id hm
  rw[lg id hm]; rfl
 have sj:(F2 names Zs acc E++Mb).Perm ((tch.filterMap fun id=>Zx id (Ys W6 id (acc.take i) 0 (Qe Zs id)))++(ro.filterMap fun id=>Zx id (Ys W6 id (acc.take i) 0 (Qe Zs id)))++(((names.filter fun j=>!Yb (tch++ro++bs) j).filterMap fun id=>Zx id (Ys E id acc 0 (Qe Zs id)))++Mb)):=by
  have h1:=vq.filterMap fun id=>Zx id (Ys E id acc 0 (Qe Zs id))
  rw[XX,XX,XX,hT,hR,hB0,QR]at h1
  rw[←QH]
  exact h1.append_right Mb
 have h2:Rel X β ρ ⟨Ve++(Id E acc 0++B),_⟩ a w:=Rel.less (Rel.permM h sj) fun e he=>by
  rcases QW.1 he with he | he
  ·exact hVe e he
  ·exact he
 refine Jgn hG hr hp h2 hnt hF hFm u9 fun β' ρ' a' w' xg hR1=>H β' ρ' a' w' xg ?_
 have htc:∀id,Zk id g=decide (id∈tch++bs):=fun id=>by
  unfold Zk
  rw[hups,R5]
  by_cases hm:id∈tch++bs
  ·rw[if_pos hm]; simp[Ea,hm]
  ·rw[if_neg hm]; simp[Ea,hm]
 have hup:∀id∈tch++bs,Ys (T4 E i) id acc 0 (Qe Zs id)=Qe S1.mem id:=fun id hm=>by
  have hm3:id∈tch++ro++bs:=by
   rcases QW.1 hm with h | h
   ·exact QZ _ (QZ _ h)
   ·exact QV _ h
  rw[Jgp hg hi (ta id hm3)]
  unfold upC
  rw[hups,R5,if_pos hm]
 have yc:∀id,id∉tch++bs→Ys (T4 E i) id acc 0 (Qe Zs id)=Ys E id acc 0 (Qe Zs id):=fun id hm=>Jgq hg (by rw[htc]; simpa using hm)
 have lh:=ZX.1 ye
 have hnd3:=ZX.1 lh.1
 have hndtb:(tch++bs).Nodup:=by
  rw[ZX]
  exact⟨hnd3.1,lh.2.1,fun x hx y hy=>lh.2.2 x (QZ _ hx) y hy⟩
 have hpm2:(F2 names Zs acc (T4 E i)++Mb).Perm ((Jn S1.mem (tch++bs)).2++(ro.filterMap fun id=>Zx id (Ys W6 id (acc.take i) 0 (Qe Zs id)))++(((names.filter fun j=>!Yb (tch++ro++bs) j).filterMap fun id=>Zx id (Ys E id acc 0 (Qe Zs id)))++Mb)):=by
  have h1:=vq.filterMap fun id=>Zx id (Ys (T4 E i) id acc 0 (Qe Zs id))
  rw[XX,XX,XX]at h1
  have e1:((tch.filterMap fun id=>Zx id (Ys (T4 E i) id acc 0 (Qe Zs id)))++(bs.filterMap fun id=>Zx id (Ys (T4 E i) id acc 0 (Qe Zs id))))=(Jn S1.mem (tch++bs)).2:=by
   rw[Qkq hndtb,←XX]
   exact Y3 fun id hm=>by rw[hup id hm]
  have e2:(ro.filterMap fun id=>Zx id (Ys (T4 E i) id acc 0 (Qe Zs id)))=(ro.filterMap fun id=>Zx id (Ys W6 id (acc.take i) 0 (Qe Zs id))):=by
   rw[←hR]
   refine Y3 fun id hm=>by
    rw[yc id fun uk=>?_]
    rcases QW.1 uk with h | h
    ·exact hnd3.2.2 id h id hm rfl
    ·exact lh.2.2 id (QV _ hm) id h rfl
  have e3:((names.filter fun j=>!Yb (tch++ro++bs) j).filterMap fun id=>Zx id (Ys (T4 E i) id acc 0 (Qe Zs id)))=(names.filter fun j=>!Yb (tch++ro++bs) j).filterMap fun id=>Zx id (Ys E id acc 0 (Qe Zs id)):=by
   refine Y3 fun id hm=>by
    rw[yc id fun uk=>?_]
    have h3:=(JJ.1 hm).2
    have hm3:id∈tch++ro++bs:=by
     rcases QW.1 uk with h | h
     ·exact QZ _ (QZ _ h)
     ·exact QV _ h
    rw[Qeu hm3]at h3; cases h3
  rw[e2,e3]at h1
  rw[←e1,←QH]
  refine(h1.append_right Mb).trans ?_
  refine List.Perm.append_right _ (List.Perm.append_right _ ?_)
  rw[QH,QH]
  exact List.Perm.append_left _ XA
 have me:(S1.mem++(ro.filterMap fun id=>Zx id (Ys W6 id (acc.take i) 0 (Qe Zs id)))++(((names.filter fun j=>!Yb (tch++ro++bs) j).filterMap fun id=>Zx id (Ys E id acc 0 (Qe Zs id)))++Mb)).Perm ((Jn S1.mem (tch++bs)).1++((Jn S1.mem (tch++bs)).2++(ro.filterMap fun id=>Zx id (Ys W6 id (acc.take i) 0 (Qe Zs id)))++(((names.filter fun j=>!Yb (tch++ro++bs) j).filterMap fun id=>Zx id (Ys E id acc 0 (Qe Zs id)))++Mb))):=by
  have h1:=(Zz (tch++bs) S1.mem).symm.trans XA
  have h3:=(h1.append_right (ro.filterMap fun id=>Zx id (Ys W6 id (acc.take i) 0 (Qe Zs id)))).append_right (((names.filter fun j=>!Yb (tch++ro++bs) j).filterMap fun id=>Zx id (Ys E id acc 0 (Qe Zs id)))++Mb)
  simpa only[QH]using h3
 have hR2:=Rel.permM hR1 me
 have hR3:Rel X β' ρ' ⟨S1.env++(Id E acc 0++B),(Jn S1.mem (tch++bs)).2++(ro.filterMap fun id=>Zx id (Ys W6 id (acc.take i) 0 (Qe Zs id)))++(((names.filter fun j=>!Yb (tch++ro++bs) j).filterMap fun id=>Zx id (Ys E id acc 0 (Qe Zs id)))++Mb)⟩ a' w':=Sb.subO hR2 ((List.sublist_append_right _ _).map _)
 refine Rel.less (Rel.permM hR3 hpm2.symm) fun e he=>?_
 rcases QW.1 he with he | he
 ·obtain⟨k,g',q1,q2,q3,rfl⟩:=Qiu he
  rw[QE]at q2
  by_cases hki:k=i
  ·subst hki
   rw[hg]at q1; injection q1 with q1; subst q1
   obtain⟨cs,hm,rfl⟩:=hgd q3
   exact QZ _ hm
  ·simp only[T4]at q2
   rw[show(k==i)=false by simp; omega,KC]at q2
   exact QV _ (QZ _ (Qxq q1 (by rw[QE]; exact q2) q3))
 ·exact QV _ (QV _ he)
end
end Gx

/- A region of open order by ordinary steps: the interpreter. -/
namespace Gx
open Go Go.RowKit Gd
set_option linter.unusedVariables false
set_option linter.unusedSimpArgs false
theorem Qut:∀{acc:List EC} {t:Nat} {v:AV},Qij acc t=some v→∃g∈acc,g.d=t∧g.has=true∧g.av=v
 | [],t,v,h=>by simp[Qij]at h
 | g::l,t,v,h=>by
  simp only[Qij]at h
  cases hb:(Nat.beq g.d t&&g.has)with
  | true =>
   rw[hb]at h
   simp only[QQ]at hb
   simp only[cond_true,Option.some.injEq]at h
   exact⟨g,.head _,QJ hb.1,hb.2,h⟩
  | false =>
   rw[hb]at h
   obtain⟨g',h1,h2⟩:=Qut h
   exact⟨g',.tail _ h1,h2⟩
theorem R6{l0:List Oper}{ds:List Nat}{i:Nat}{acc:List EC}{B:List En}:∀{ts:List Nat} {e:En},e∈Qp7 l0 ds i acc B ts →
  (e.cs=[]∧Qij acc e.t=some e.av∧Q73 l0 i (ds.idxOf e.t)=true)∨e∈B
 | [],e,h=>by
  obtain⟨h1,h2,h3⟩:=Qir (by simpa[Qp7]using h)
  exact .inr h2
 | t::ts,e,h=>by
  simp only[Qp7]at h
  split at h
  ·rename_i v hv
   cases hp:Q73 l0 i (ds.idxOf t)with
   | true =>
    rw[hp]at h
    rcases QX.1 h with rfl | h
    ·exact .inl ⟨rfl,hv,hp⟩
    ·exact R6 h
   | false=>rw[hp]at h; exact R6 h
  ·cases hb:Ql1 ds t with
   | true =>
    rw[hb]at h
    simp only[cond_true]at h
    split at h
    ·rename_i t' v he
     obtain⟨h1,h2⟩:=U2 he
     rcases QX.1 h with rfl | h
     ·exact .inr h1
     ·exact R6 h
    ·exact R6 h
   | false=>rw[hb]at h; exact R6 h
theorem C9{l m:List Nat}(h:Qbe l m=true){x:Nat}(h1:x∈l)(h2:x∈m):False:=by
 have:=JN.1 h x h1
 rw[Qeu h2]at this; cases this
section
variable {R:Type} (Y:TX) (K:List Con) (n:Nat) (l0:List Oper) (ds:List Nat) (Zs:List (Nat×Ob)) (B:List En) (prA:List Nat)
def TrC:List HD→List Oper→Nat→List EC→List EC→Prop
 | [],[],_,_,[]=>True
 | hc::hs,o::l,i,acc,g::acc2=>(∃S1,Yx (R:=XS) Y K n l0 hc.h [o] (Qp8 l0 ds Zs B prA hc o i acc) some=some S1∧Qgp n ds Zs hc o i acc S1=some g)∧TrC hs l (i+1) (acc++[g]) acc2
 | _,_,_,_,_=>False
end
section
variable {R:Type} {r:R} {Y:TX} {K:List Con} {n:Nat} {l0:List Oper} {ds:List Nat} {Zs:List (Nat×Ob)} {B:List En} {prA:List Nat}
theorem Qq0{acc:List EC}{t:Nat}{b:Bool}(h:Qij acc t=some (.d .bool b)):Q0y acc t b=acc:=by
 induction acc with
 | nil=>rfl
 | cons g l ih =>
  simp only[Qij]at h
  simp only[Q0y]
  cases hb:(Nat.beq g.d t&&g.has)with
  | true =>
   rw[hb]at h
   simp only[cond_true,Option.some.injEq]at h
   obtain⟨gd,gv,gh,gu⟩:=g
   simp only at h
   subst h
   rfl
  | false =>
   rw[hb]at h
   simp only[cond_false]
   rw[ih h]
theorem Qow:∀{ht:HT} {l:List Oper} {i:Nat} {hs:List HD} {acc:List EC} {k:Hn→List HD→List EC→Option R},Qp9 Y K n l0 ds Zs B prA ht l i hs acc k=some r →
  ∃h yw acc2,k h (hs++yw) (acc++acc2)=some r∧TrC Y K n l0 ds Zs B prA yw l i acc acc2∧∀x∈Kn yw,x∈Cc ht
 | .tl h,[],i,hs,acc,k,hr=>⟨h,[],[],by simpa[Qp9]using hr,trivial,by simp[Kn]⟩
 | .tl h,_::_,i,hs,acc,k,hr=>by simp[Qp9]at hr
 | .op hc t,[],i,hs,acc,k,hr=>by simp[Qp9]at hr
 | .op hc t,o::l,i,hs,acc,k,hr=>by
  simp only[Qp9]at hr
  obtain⟨S1,h1,h2⟩:=Qqe hr
  split at h1
  ·rename_i g hg
   obtain⟨h,yw,acc2,h3,h4,h5⟩:=Qow h1
   refine⟨h,hc::yw,g::acc2,by simpa using h3,⟨⟨S1,h2,hg⟩,h4⟩,fun x hx=>?_⟩
   rcases QW.1 hx with hx | hx
   ·exact QZ _ hx
   ·exact QV _ (h5 x hx)
  ·cases h1
 | .so t a b,l,i,hs,acc,k,hr=>by
  simp only[Qp9]at hr
  split at hr
  ·rename_i v hv
   cases v with
   | true =>
    rw[if_pos rfl,Qq0 hv]at hr
    obtain⟨h,yw,acc2,h3,h4,h5⟩:=Qow hr
    exact⟨h,yw,acc2,h3,h4,fun x hx=>QZ _ (h5 x hx)⟩
   | false =>
    rw[if_neg (by simp),Qq0 hv]at hr
    obtain⟨h,yw,acc2,h3,h4,h5⟩:=Qow hr
    exact⟨h,yw,acc2,h3,h4,fun x hx=>QV _ (h5 x hx)⟩
  ·cases hr
theorem TrC.get:∀{hs:List HD} {l:List Oper} {i:Nat} {acc acc2:List EC},TrC Y K n l0 ds Zs B prA hs l i acc acc2→acc2.length=l.length∧hs.length=l.length∧∀(j:Nat) o,l[j]?=some o→∃g hc S1,acc2[j]?=some g∧hs[j]?=some hc ∧
  Yx (R:=XS) Y K n l0 hc.h [o] (Qp8 l0 ds Zs B prA hc o (i+j) (acc++acc2.take j)) some=some S1∧Qgp n ds Zs hc o (i+j) (acc++acc2.take j) S1=some g
 | [],[],i,acc,[],_=>⟨rfl,rfl,by simp⟩
 | [],[],i,acc,_::_,h=>h.elim
 | [],_::_,i,acc,_,h=>by simp[TrC]at h
 | _::_,[],i,acc,_,h=>by simp[TrC]at h
 | _::_,_::_,i,acc,[],h=>by simp[TrC]at h
 | hc::hs,o::l,i,acc,g::acc2,h=>by
  obtain⟨⟨S1,q1,q2⟩,h0⟩:=h
  obtain⟨h2,zj,h3⟩:=TrC.get h0
  refine⟨by simp[h2],by simp[zj],fun j o' ho=>?_⟩
  cases j with
  | zero =>
   simp at ho; subst ho
   exact⟨g,hc,S1,rfl,rfl,by simpa using q1,by simpa using q2⟩
  | succ j =>
   obtain⟨g',yp,S1',p1,p2,p3,p4⟩:=h3 j o' (by simpa using ho)
   refine⟨g',yp,S1',by simpa using p1,by simpa using p2,?_,?_⟩
   ·rw[show i+(j+1)=i+1+j by omega]; simpa using p3
   ·rw[show i+(j+1)=i+1+j by omega]; simpa using p4
end
end Gx

/- A region of open order by ordinary steps. -/
namespace Gx
open Go Go.RowKit Gd
set_option linter.unusedVariables false
set_option linter.unusedSimpArgs false
theorem Lw{n:Nat}{ds:List Nat}{Zs:List (Nat×Ob)}{hc:HD}{o:Oper}{i:Nat}{acc:List EC}{S1:XS}{g:EC}(h:Qgp n ds Zs hc o i acc S1=some g) :
  Vg (Qfw hc.tch Zs acc++Qfw hc.ro Zs acc)=true∧Gb hc.nm (Jc S1.mem)=true∧(g.ups=(hc.tch++hc.bs).map fun id=>(id,Qe S1.mem id))∧ds.getD i 0=g.d∧Gb hc.nm (Jb g.av)=true∧(∀d,o.dst=some d→d=g.d∧d<n)∧(g.has=true→∃cs,(⟨g.d,cs,g.av⟩:En)∈S1.env∧cs=[])∧(o.dst=none→n≤1000000000→n≤g.d):=by
 unfold Qgp at h
 obtain⟨hb,h⟩:=bvT h
 simp only[QQ]at hb
 split at h
 ·rename_i d hd
  split at h
  ·rename_i t av hl
   obtain⟨yd,h⟩:=bvT h
   simp only[QQ]at yd
   simp only[Option.some.injEq]at h
   subst h
   obtain⟨hm,ht⟩:=U2 hl
   simp only at ht
   subst ht
   exact⟨hb.1,hb.2,rfl,QJ yd.1.1,yd.1.2,fun d' vh=>by rw[hd]at vh; injection vh with vh; subst vh; exact⟨rfl,QF yd.2⟩,fun _=>⟨[],hm,rfl⟩,fun hn=>by rw[hd]at hn; cases hn⟩
  ·cases h
 ·rename_i hd
  obtain⟨yd,h⟩:=bvT h
  simp only[Option.some.injEq]at h
  subst h
  exact⟨hb.1,hb.2,rfl,QJ yd,(by trivial),(fun d' vh=>by rw[hd]at vh; cases vh),(fun h=>by cases h),fun _ hn=>by simp only; omega⟩
theorem Qcx:∀{l m:List (Nat×Ob)} {i:Nat},i∈Jc (l++m)→i∈Jc l∨i∈Jc m
 | [],m,i,h=>.inr h
 | (k,ob)::l,m,i,h=>by
  have key:∀{xs:List Nat},i∈xs++Jc (l++m)→i∈xs++Jc l∨i∈Jc m:=fun {xs} h=>by
   rcases QW.1 h with h | h
   ·exact .inl (QZ _ h)
   ·exact(Qcx h).imp (QV _) id
  cases ob with
  | var t c=>exact key (xs:=k::Jb c) (by simpa[Jc]using h) |>.imp (by simp[Jc]) id
  | mapC a b xs hole =>
   cases hole with
   | none=>exact key (xs:=[k]) (by simpa[Jc]using h) |>.imp (by simp[Jc]) id
   | some q=>exact key (xs:=[k,q.2]) (by simpa[Jc]using h) |>.imp (by simp[Jc]) id
  | mapE k1 v1 xs1 key1 j=>exact key (xs:=[k,j]) (by simpa[Jc]using h) |>.imp (by simp[Jc]) id
  | _=>exact key (xs:=[k]) (by simpa[Jc]using h) |>.imp (by simp[Jc]) id
theorem Qq1{f:Nat→Option Ob}{i:Nat}:∀{ids:List Nat},i∈Jc (ids.filterMap fun id=>Zx id (f id))→∃id∈ids,∃ob,f id=some ob∧i∈Jc [(id,ob)]
 | [],h=>by cases h
 | id::ids,h=>by
  simp only[XH]at h
  cases hf:f id with
  | none =>
   rw[hf]at h
   obtain⟨id',h1,ob,h2,h3⟩:=Qq1 (ids:=ids) h
   exact⟨id',.tail _ h1,ob,h2,h3⟩
  | some ob =>
   rw[hf]at h
   rcases Qcx (l:=[(id,ob)]) h with h | h
   ·exact⟨id,.head _,ob,hf,h⟩
   ·obtain⟨id',h1,ob',h2,h3⟩:=Qq1 (ids:=ids) h
    exact⟨id',.tail _ h1,ob',h2,h3⟩
theorem Quu{M:List (Nat×Ob)}{id i:Nat}{ob:Ob}:Qe M id=some ob→i∈Jc [(id,ob)]→i∈Jc M:=by
 intro h hi
 obtain⟨l1,l2,e,w1,w2⟩:=Jj h
 rw[e]
 clear e h w1 w2
 induction l1 with
 | nil =>
  have key:∀{xs ys:List Nat},i∈xs++[]→i∈xs++ys:=fun h=>QZ _ (by simpa using h)
  cases ob with
  | var t c=>have:=key (xs:=id::Jb c) (ys:=Jc l2) (by simpa[Jc]using hi); simpa[Jc]using this
  | mapC a b xs hole =>
   cases hole with
   | none=>have:=key (xs:=[id]) (ys:=Jc l2) (by simpa[Jc]using hi); simpa[Jc]using this
   | some q=>have:=key (xs:=[id,q.2]) (ys:=Jc l2) (by simpa[Jc]using hi); simpa[Jc]using this
  | mapE k1 v1 xs1 key1 j=>have:=key (xs:=[id,j]) (ys:=Jc l2) (by simpa[Jc]using hi); simpa[Jc]using this
  | _=>have:=key (xs:=[id]) (ys:=Jc l2) (by simpa[Jc]using hi); simpa[Jc]using this
 | cons q l ih =>
  obtain⟨k,x⟩:=q
  cases x with
  | var t c=>simp only[QA,Jc]; exact .tail _ (QV _ ih)
  | mapC a b xs hole =>
   cases hole with
   | none=>simp only[QA,Jc]; exact .tail _ ih
   | some q=>simp only[QA,Jc]; exact .tail _ (.tail _ ih)
  | mapE k1 v1 xs1 key1 j=>simp only[QA,Jc]; exact .tail _ (.tail _ ih)
  | _=>simp only[QA,Jc]; exact .tail _ ih
theorem Q1r{E:Nat→Bool}{id:Nat}{ob:Ob}:∀{l:List EC} {j:Nat} {c:Option Ob},Ys E id l j c=some ob→c=some ob∨∃(k:Nat) (g:EC),l[k]?=some g∧E (j+k)=true∧Qmd g.ups id=some (some ob)
 | [],j,c,h=>.inl h
 | g0::l,j,c,h=>by
  simp only[Ys]at h
  rcases Q1r h with h1 | ⟨k,g,h1,h2,h3⟩
  ·cases hE:E j with
   | false=>rw[hE]at h1; exact .inl h1
   | true =>
    rw[hE]at h1
    simp only[cond_true,upC]at h1
    cases hl:Qmd g0.ups id with
    | none=>rw[hl]at h1; exact .inl h1
    | some x=>rw[hl]at h1; simp only at h1; subst h1; exact .inr ⟨0,g0,rfl,hE,hl⟩
  ·exact .inr ⟨k+1,g,by simpa using h1,by rw[show j+(k+1)=j+1+k by omega]; exact h2,h3⟩
end Gx

/- A region of open order by ordinary steps: sound. -/
namespace Gx
open Go Go.RowKit Gd
set_option linter.unusedVariables false
set_option linter.unusedSimpArgs false
theorem Quv:∀{hs:List HD} {i:Nat},(∃hc∈hs,i∈hc.bs)→i∈Kn hs
 | [],i,⟨_,h,_⟩=>by cases h
 | h::l,i,⟨hc,hm,hi⟩=>by
  rcases QX.1 hm with rfl | hm
  ·exact QZ _ hi
  ·exact QV _ (Quv ⟨hc,hm,hi⟩)
theorem Q6b{l0:List Oper}{hs:List HD}(h:Jqr l0 hs=true){i j:Nat}{hi hj:HD}(h1:hs[i]?=some hi)(h2:hs[j]?=some hj)(vw:j<i):Qik l0 i j hi hj=true:=by
 have uh:=(QK.1 h1).1
 have:=JN.1 (JN.1 h i (JT.2 uh)) j (JT.2 vw)
 rw[h1,h2]at this
 exact this
theorem Jq0{l0:List Oper}{hs:List HD}(h:nmB l0 hs=true){i j:Nat}{hi hj:HD}(h1:hs[i]?=some hi)(h2:hs[j]?=some hj)(vw:i≠j):Qbe hi.bs hj.nm=true∨Fu l0 l0.length j i=true:=by
 have uh:=(QK.1 h1).1
 have sy:=(QK.1 h2).1
 have:=JN.1 (JN.1 h i (JT.2 uh)) j (JT.2 sy)
 rw[h1,h2]at this
 simp only[Jpl vw,KC,JS]at this
 exact this
theorem Quw{m:List (Nat×Ob)}{i:Nat}:∀{l:List (Nat×Ob)},i∈Jc l→i∈Jc (l++m)
 | [],h=>by cases h
 | (k,x)::l,h=>by
  have key:∀{xs:List Nat},i∈xs++Jc l→i∈xs++Jc (l++m):=fun {xs} h=>by
   rcases QW.1 h with h | h
   ·exact QZ _ h
   ·exact QV _ (Quw h)
  cases x with
  | var t c=>have:=key (xs:=k::Jb c) (by simpa[Jc]using h); simpa[Jc]using this
  | mapC a b xs hole =>
   cases hole with
   | none=>have:=key (xs:=[k]) (by simpa[Jc]using h); simpa[Jc]using this
   | some q=>have:=key (xs:=[k,q.2]) (by simpa[Jc]using h); simpa[Jc]using this
  | mapE k1 v1 xs1 key1 j=>have:=key (xs:=[k,j]) (by simpa[Jc]using h); simpa[Jc]using this
  | _=>have:=key (xs:=[k]) (by simpa[Jc]using h); simpa[Jc]using this
theorem Qq2{m:List (Nat×Ob)}{i:Nat}(h:i∈Jc m):∀{l:List (Nat×Ob)},i∈Jc (l++m)
 | []=>h
 | (k,x)::l=>by
  have ih:=Qq2 h (l:=l)
  cases x with
  | var t c=>simp only[QA,Jc]; exact .tail _ (QV _ ih)
  | mapC a b xs hole =>
   cases hole with
   | none=>simp only[QA,Jc]; exact .tail _ ih
   | some q=>simp only[QA,Jc]; exact .tail _ (.tail _ ih)
  | mapE k1 v1 xs1 key1 j=>simp only[QA,Jc]; exact .tail _ (.tail _ ih)
  | _=>simp only[QA,Jc]; exact .tail _ ih
theorem Qq3{E E':Nat→Bool}:∀{acc:List EC} {j:Nat},(∀k,k<acc.length→E (j+k)=E' (j+k))→Id E acc j=Id E' acc j
 | [],_,_=>rfl
 | g::l,j,h=>by
  have h0:=h 0 (by simp)
  rw[ZD]at h0
  have ih:Id E l (j+1)=Id E' l (j+1):=Qq3 fun k hk=>by
   have:=h (k+1) (by simp only[JI]; omega)
   rwa[show j+(k+1)=j+1+k by omega]at this
  simp only[Id,h0,ih]
theorem Qux:∀{acc:List EC} {j:Nat},Id (fun _=>false) acc j=[]
 | [],_=>rfl
 | g::l,j=>by simp only[Id,Bool.false_and,cond_false]; exact Qux
theorem Jb3{Zs:List (Nat×Ob)}{bs:List Nat}{acc:List EC}(hN:(Vb Zs++bs).Nodup):F2 (Vb Zs++bs) Zs acc (fun _=>false)=Zs:=by
 unfold F2
 have h0:∀id c,Ys (fun _=>false) id acc 0 c=c:=fun id c=>Lv fun _ _ _ _=>rfl
 obtain⟨n1,n2,n3⟩:=ZX.1 hN
 rw[XX]
 have e2:(bs.filterMap fun id=>Zx id (Ys (fun _=>false) id acc 0 (Qe Zs id)))=[]:=by
  rw[VZ]
  intro d hd
  rw[h0]
  cases hl:Qe Zs d with
  | none=>rfl
  | some ob=>exact absurd rfl (n3 d (Qcv (by rw[hl]; rfl)) d hd)
 rw[e2,QR]
 unfold Vb
 rw[List.filterMap_map]
 refine(Y3 (f:=some) fun q hq=>?_).trans WW
 simp only[Function.comp,h0,Qgs n1 q hq,Zx]
section
variable {P:Program} {Y:TX} {X:Cx} {K:List Con} {n:Nat} {l0:List Oper} {ds:List Nat} {Zs Mb:List (Nat×Ob)} {B:List En} {prA prB:List Nat} {R:Type} {r:R} {β:Nat→Nat} {ρ:Nat→Value} {a:Act} {w:World}
theorem Q6c(hT:Q4 P Y.T)(ze:P.follows .mixedOrders=true)(hK:KsX P Y X K)(hX:X.n=n)(hr:X.res=[])(hp:X.pin=none){ht:HT}{p:Nat}(h:Rel X β ρ ⟨B,Zs++Mb⟩ a w)
  (hBt:∀e∈B,∀d∈ds,d<n→e.t≠d∧∀c∈e.cs,c.1≠d) (hBi:∀e∈B,∀i∈Jb e.av,i∈prB) (hMi:∀i∈Jc (Zs++Mb),i∈prB)
  (hb:Q8h l0 p ds=true) {k:Hn→List HD→List EC→Option R} (hs:Qp9 Y K n l0 ds Zs B prA ht (l0.take p) 0 [] [] k=some r)
  (qe:∀h z6 acc,k h z6 acc=some r→Jks l0 (Vb Zs) prB prA z6=true) (hpA:∀i∈prB,i∈prA) {id:Nat} {Q:Exit→Act→World→Prop}
  (H:∀β' ρ' a' w' h z6 acc,k h z6 acc=some r→(∀(x:Nat),(∀hc∈z6,x∉hc.wr)→∀g∈acc,Zk x g=false)→(∀x∈Kn z6,x∈Cc ht)→agP prB β β' ρ ρ'→Rel X β' ρ' ⟨Id W6 acc 0++B,F2 (Vb Zs++Kn z6) Zs acc W6++Mb⟩ a' w'→wpList P ⟨l0⟩ Q (l0.drop p) a' w'):(Code.region id ⟨l0⟩ true).wp P Q a w:=by
 unfold Q8h at hb
 simp only[QQ]at hb
 obtain⟨⟨⟨⟨mz,hlen⟩,pq⟩,yn⟩,fp⟩:=hb
 have ye:=Qtx fp
 have ik:=QF mz
 have hdl:=QJ hlen
 obtain⟨hn,z6,acc,hk,htr,hbT⟩:=Qow hs
 simp only[QC]at hk
 have fq:=qe _ _ _ hk
 unfold Jks at fq
 simp only[QQ]at fq
 obtain⟨⟨⟨⟨⟨lj,hnm⟩,hNb⟩,hapB⟩,hNAb⟩,hall0⟩:=fq
 have hN:=R4 hNb
 have hNA:∀i∈Vb Zs++Kn z6,i∈prA:=fun i hi=>Fh hNAb i hi
 have hprB:∀i∈prB,i∈prA∧i∉Kn z6:=fun i hi=>⟨hpA i hi,fun h2=>C9 hapB hi h2⟩
 have ft:∀hc∈z6,L7 hc.al=true∧Gb (Vb Zs++Kn z6) hc.al=true∧Gb prA hc.nm=true:=fun hc hm=>by
  have:=JN.1 hall0 hc hm
  simp only[QQ]at this
  exact⟨this.1.1,this.1.2,this.2⟩
 have hNm:∀hc∈z6,∀i∈hc.nm,i∈prA:=fun hc hm i hi=>Fh (ft hc hm).2.2 i hi
 have hal:∀hc∈z6,(hc.tch++hc.ro++hc.bs).Nodup∧∀i∈hc.tch++hc.ro++hc.bs,i∈Vb Zs++Kn z6:=fun hc hm=>⟨R4 (ft hc hm).1,fun i hi=>Fh (ft hc hm).2.1 i hi⟩
 obtain⟨hal1,hal2,zi⟩:=htr.get
 have hap:acc.length=p:=by rw[hal1,QO]; omega
 simp only[QC,QE]at zi
 have hget:∀(i:Nat) o,i<p→l0[i]?=some o→∃g hc S1,acc[i]?=some g∧z6[i]?=some hc∧Yx (R:=XS) Y K n l0 hc.h [o] (Qp8 l0 ds Zs B prA hc o i (acc.take i)) some=some S1∧Qgp n ds Zs hc o i (acc.take i) S1=some g:=fun i o hi ho=>zi i o (by rw[JD,if_pos hi]; exact ho)
 have ny:∀(j:Nat) g,acc[j]?=some g→j<p∧∃o hc S1,l0[j]?=some o∧z6[j]?=some hc∧Qgp n ds Zs hc o j (acc.take j) S1=some g:=fun j g hg=>by
  have hj:j<p:=by have:=(QK.1 hg).1; omega
  obtain⟨g',hc,S1,q1,q2,_,q4⟩:=hget j l0[j] hj (QU (by omega))
  rw[hg]at q1; injection q1 with q1; subst q1
  exact⟨hj,_,hc,S1,QU (by omega),q2,q4⟩
 have lk:∀(j:Nat) g hc x,acc[j]?=some g→z6[j]?=some hc→Zk x g=true→x∈hc.wr:=fun j g hc x hg hh ht=>by
  obtain⟨_,o,yp,S1,_,q2,q3⟩:=ny j g hg
  rw[hh]at q2; injection q2 with q2; subst q2
  unfold Zk at ht
  rw[(Lw q3).2.2.1,R5]at ht
  by_cases hm:x∈hc.tch++hc.bs
  ·exact hm
  ·rw[if_neg hm]at ht; simp[Ea]at ht
 have ll:∀(j:Nat) g,acc[j]?=some g→ds[j]?=some g.d:=fun j g hg=>by
  obtain⟨hj,o,hc,S1,_,_,q3⟩:=ny j g hg
  exact Jby (by omega) (Lw q3).2.2.2.1
 have qf:∀(x:Nat),(∀hc∈z6,x∉hc.wr)→∀g∈acc,Zk x g=false:=fun x hx g hg=>by
  obtain⟨j,hj⟩:=XC hg
  obtain⟨hjp,o,hc,S1,p1,p2,p3⟩:=ny j g hj
  cases ht:Zk x g with
  | false=>rfl
  | true=>exact absurd (lk j g hc x hj p2 ht) (hx hc (JM p2))
 refine Q59 (fun E a w=>∃β' ρ',agP prB β β' ρ ρ'∧Rel X β' ρ' ⟨Id E acc 0++B,F2 (Vb Zs++Kn z6) Zs acc E++Mb⟩ a w) ze p (fun E E' a w hE ⟨β',ρ',q1,q2⟩=>⟨β',ρ',q1,?_⟩) mz pq yn ⟨β,ρ,agP.refl _ _ _,?_⟩ (fun E i o a w Q' fk ho xl hEi vf ⟨β1,ρ1,xg,hR⟩ hQ=>?_) fun a' w' ⟨β',ρ',q1,q2⟩=>H β' ρ' a' w' hn z6 acc hk qf hbT q1 q2
 ·have e1:Id E acc 0=Id E' acc 0:=Qq3 fun k hk=>by rw[QE]; exact hE k (by omega)
  have e2:F2 (Vb Zs++Kn z6) Zs acc E=F2 (Vb Zs++Kn z6) Zs acc E':=Y3 fun id _=>by
   rw[Md (E:=E) (E':=E') fun k e hk _=>by rw[QE]; exact hE k (by have:=(QK.1 hk).1; omega)]
  rw[e1,e2]at q2
  exact q2
 ·rw[Qux,Jb3 hN]
  exact Sb.below h ((Below.refl _ _).drew)
 ·obtain⟨g,hc,S1,hg,e8,ka,zg⟩:=hget i o fk ho
  obtain⟨t1,t2,t3,t4,t5,t6,t7,t8⟩:=Lw zg
  obtain⟨al1,al2⟩:=hal hc (JM e8)
  have pt:∀j,Fu l0 l0.length j i=true→E j=false:=fun j hbj=>by
   cases hE:E j with
   | false=>rfl
   | true =>
    have:E i=true:=Rm xl l0.length j i hbj fun o' wm e he yo=>xl j o' hE wm e he yo
    rw[hEi]at this; cases this
  have hearB:∀j,Fu l0 l0.length i j=true→E j=true:=fun j hbj=>Rm xl l0.length i j hbj fun o' wm e he yo=>by rw[ho]at wm; injection wm with wm; subst wm; exact vf e he yo
  have ta:∀id∈hc.tch++hc.ro++hc.bs,∀(j:Nat) g',acc[j]?=some g'→i<j→Zk id g'=true→E j=false:=fun id hm j g' hj ue ht=>by
   obtain⟨hjp,oj,rl,S1j,p1,p2,p3⟩:=ny j g' hj
   have hw:=lk j g' rl id hj p2 ht
   have zk:=Q6b lj p2 e8 ue
   unfold Qik at zk
   simp only[QQ,JS]at zk
   rcases zk.1 with⟨s1,s2⟩ | s1
   ·exfalso
    rcases QW.1 hm with hm | hm
    ·rcases QW.1 hm with hm | hm
     ·exact C9 s1 (QZ _ hm:id∈hc.wr) (by
       rcases QW.1 hw with q | q
       ·exact QZ _ (QZ _ q)
       ·exact QV _ q)
     ·exact C9 s2 hm hw
    ·exact C9 s1 (QV _ hm:id∈hc.wr) (by
       rcases QW.1 hw with q | q
       ·exact QZ _ (QZ _ q)
       ·exact QV _ q)
   ·exact pt j s1
  have su:∀id∈hc.tch++hc.ro,∀(j:Nat) g',acc[j]?=some g'→j<i→Zk id g'=true→E j=true:=fun id hm j g' hj ue ht=>by
   obtain⟨hjp,oj,rl,S1j,p1,p2,p3⟩:=ny j g' hj
   have hw:=lk j g' rl id hj p2 ht
   have zk:=Q6b lj e8 p2 ue
   unfold Qik at zk
   simp only[QQ,JS]at zk
   rcases zk.1 with⟨s1,s2⟩ | s1
   ·exact(C9 s1 hw (QZ _ hm)).elim
   ·exact hearB j s1
  have hbsA:∀id∈hc.bs,id∈Kn z6:=fun id hm=>Quv ⟨hc,JM e8,hm⟩
  have lg:∀id∈hc.bs,Ys E id acc 0 (Qe Zs id)=none:=fun id hm=>by
   have hz:Qe Zs id=none:=by
    cases hl:Qe Zs id with
    | none=>rfl
    | some ob=>exact absurd rfl ((ZX.1 hN).2.2 id (Qcv (by rw[hl]; rfl)) id (hbsA id hm))
   rw[hz]
   refine Lv fun j g' hj ht=>?_
   rw[QE]
   rcases Nat.lt_trichotomy j i with vw | vw | vw
   ·obtain⟨hjp,oj,rl,S1j,p1,p2,p3⟩:=ny j g' hj
    have zk:=Q6b lj e8 p2 vw
    unfold Qik at zk
    simp only[QQ]at zk
    exact(C9 zk.2 hm (lk j g' rl id hj p2 ht)).elim
   ·rw[vw]; exact hEi
   ·exact ta id (QV _ hm) j g' hj vw ht
  have ln:∀x∈prB,x∈Qil prA hc.bs:=fun x hx=>by
   obtain⟨q1,q2⟩:=hprB x hx
   refine JJ.2 ⟨q1,?_⟩
   cases hm:Yb hc.bs x with
   | false=>rfl
   | true=>exact absurd (hbsA x (Qiq hm)) q2
  have hnmj:∀(j:Nat) g',acc[j]?=some g'→E j=true→∀rl,z6[j]?=some rl→∀x∈rl.nm,x∈Qil prA hc.bs:=fun j g' hj hE rl p2 x hx=>by
   refine JJ.2 ⟨hNm rl (JM p2) x hx,?_⟩
   cases hm:Yb hc.bs x with
   | false=>rfl
   | true =>
    have ue:i≠j:=fun e=>by subst e; rw[hEi]at hE; cases hE
    rcases Jq0 hnm e8 p2 ue with q | q
    ·exact(C9 q (Qiq hm) hx).elim
    ·rw[pt j q]at hE; cases hE
  refine Jgr hK.2 hr hp (S1:=S1) (tch:=hc.tch) (ro:=hc.ro) (bs:=hc.bs) (pr:=Qil prA hc.bs) (Ve:=Qp7 l0 ds i (acc.take i) B (Q5x o++gTs l0 o)) hR hg hEi hN al1 al2 su ta lg (fun e he=>?_) t3 t7 (fun d hd=>(t6 d hd).1) t1 (fun e he=>?_) (fun x hx=>?_) (fun X1 Q1 x1 x2 x3 x4 x5 x6=>?_) fun β' ρ' a' w' y1 y2=>hQ a' w' ⟨β',ρ',agP.trans xg fun x hx=>y1 x (ln x hx),y2⟩
  ·rcases R6 he with⟨v1,v2,v3⟩ | v1
   ·obtain⟨g',m1,m2,m3,m4⟩:=Qut v2
    obtain⟨j,hj⟩:=XC m1
    rw[JD]at hj
    split at hj
    ·rename_i vw
     have vh:=ll j g' hj
     have hix:ds.idxOf e.t=j:=by
      have sy:=(QK.1 vh).1
      have:=ye.idxOf_getElem j sy
      rw[(QK.1 vh).2,m2]at this
      exact this
     rw[hix]at v3
     have hEj:E j=true:=by
      simp only[Q73,ho]at v3
      obtain⟨e',um,yo⟩:=List.any_eq_true.1 v3
      simp only[QQ]at yo
      rw[←QJ yo.2]
      exact vf e' um yo.1
     refine QZ _ ?_
     have:=Qxq (E:=E) (acc:=acc) (j:=0) (k:=j) hj (by rw[QE]; exact hEj) m3
     obtain⟨et,ecs,eav⟩:=e
     simp only at v1 m2 m4
     subst v1; subst m2; subst m4
     exact this
    ·cases hj
   ·exact QV _ v1
  ·rcases QW.1 he with he | he
   ·obtain⟨j,g',q1,q2,q3,rfl⟩:=Qiu he
    rw[QE]at q2
    obtain⟨hjp,oj,rl,S1j,p1,p2,p3⟩:=ny j g' q1
    refine⟨fun x hx=>hnmj j g' q1 q2 rl p2 x (Fh (Lw p3).2.2.2.2.1 x hx),fun d hd=>⟨fun e=>?_,by simp⟩⟩
    have e1:=(t6 d hd).1
    have d1:=ll j g' q1
    have d2:=ll i g hg
    have ue:j=i:=by
     obtain⟨b1,c1⟩:=QK.1 d1
     obtain⟨b2,c2⟩:=QK.1 d2
     have a1:=ye.idxOf_getElem j b1
     have a2:=ye.idxOf_getElem i b2
     rw[show ds[j]=ds[i]from c1.trans (e.trans (e1.trans c2.symm))]at a1
     exact a1.symm.trans a2
    rw[ue,hEi]at q2; cases q2
   ·refine⟨fun x hx=>ln x (hBi e he x hx),fun d hd=>?_⟩
    obtain⟨e1,e2⟩:=t6 d hd
    exact hBt e he d (by rw[e1]; exact JM (ll i g hg)) e2
  ·rcases Qcx hx with hx | hx
   ·obtain⟨id,h1,ob,h2,h3⟩:=Qq1 hx
    rcases Q1r h2 with h6 | ⟨j,g',q1,q2,q3⟩
    ·exact ln x (hMi x (Quw (Quu h6 h3)))
    ·rw[QE]at q2
     obtain⟨hjp,oj,rl,S1j,p1,p2,p3⟩:=ny j g' q1
     refine hnmj j g' q1 q2 rl p2 x (Fh (Lw p3).2.1 x ?_)
     rw[(Lw p3).2.2.1,R5]at q3
     split at q3
     ·exact Quu (Option.some.inj q3) h3
     ·cases q3
   ·exact ln x (hMi x (Qq2 hx))
  ·have pv:(Qp8 l0 ds Zs B prA hc o i (acc.take i)).flat=⟨Qp7 l0 ds i (acc.take i) B (Q5x o++gTs l0 o),Qfw hc.tch Zs (acc.take i)++Qfw hc.ro Zs (acc.take i)⟩:=by
    simp only[XS.flat,Qp8,QR]
   have:=Y5 hT (X:=X1) ⟨hK.1,x4⟩ (x1.trans hX) x2 (Q:=Q1) hc.h (l:=[o]) (rest:=[]) (S:=Qp8 l0 ds Zs B prA hc o i (acc.take i)) (a:=a) (w:=w) (by rw[pv]; exact x5) ka fun β' ρ' S' a' w' k1 k2 k3=>by
    simp only[Option.some.injEq]at k1
    subst k1
    have kf:S'.fix=[]:=k2.fix
    have km:S'.fixM=Qfw hc.ro Zs (acc.take i):=k2.fixM
    refine x6 β' ρ' a' w' k2.ag ?_
    have e:S'.flat=⟨S'.env,S'.mem++Qfw hc.ro Zs (acc.take i)⟩:=by simp only[XS.flat,kf,km,QR]
    rw[e]at k3
    exact k3
   simpa using this
end
end Gx

/- A region of open order by ordinary steps, as the interpreter walks it. -/
namespace Gx
open Go Go.RowKit Gd
set_option linter.unusedVariables false
set_option linter.unusedSimpArgs false
theorem Qcy{M:List (Nat×Ob)}:∀{B:List En} {e:En},e∈Jbe M B→∃e0∈B,e=⟨e0.t,e0.cs,O8 M e0.av⟩
 | [],e,h=>by cases h
 | e0::l,e,h=>by
  simp only[Jbe]at h
  cases hb:Qxd M (Qt7 e0.av)with
  | true =>
   rw[hb]at h
   rcases QX.1 h with rfl | h
   ·exact⟨e0,.head _,rfl⟩
   ·obtain⟨e1,h1,h2⟩:=Qcy h
    exact⟨e1,.tail _ h1,h2⟩
  | false =>
   rw[hb]at h
   obtain⟨e1,h1,h2⟩:=Qcy h
   exact⟨e1,.tail _ h1,h2⟩
theorem Jmn{α:Type}(a b c d:List α):((a++b)++(c++d)).Perm ((a++c)++(b++d)):=by
 rw[QH,QH]
 refine List.Perm.append_left a ?_
 rw[←QH,←QH]
 exact List.perm_append_comm.append_right d
theorem Quy{E:Nat→Bool}{id:Nat}:∀{l:List EC} {j:Nat} {c:Option Ob},(∀g∈l,Zk id g=false)→Ys E id l j c=c
 | [],j,c,_=>rfl
 | g::l,j,c,h=>by
  simp only[Ys]
  rw[Q6a (h g (.head _))]
  rw[show(bif E j then c else c)=c by cases E j<;>rfl]
  exact Quy fun g' hg=>h g' (.tail _ hg)
theorem Qcz{l m:List Nat}{Zs:List (Nat×Ob)}{acc:List EC}{E:Nat→Bool}:F2 (l++m) Zs acc E=F2 l Zs acc E++F2 m Zs acc E:=XX
theorem Qxr{l m:List (Nat×Ob)}:Vb (l++m)=Vb l++Vb m:=JK
section
variable {P:Program} {Y:TX} {X:Cx} {K:List Con} {n:Nat} {l0:List Oper} {ds:List Nat} {R:Type} {r:R} {β:Nat→Nat} {ρ:Nat→Value} {a:Act} {w:World}
theorem Jk2{B:List En}{M Z:List (Nat×Ob)}(h:Rel X β ρ ⟨B,M++Z⟩ a w):Rel X β ρ ⟨Jbe M B++B,M++Z⟩ a w:=by
 refine Rel.ofSb h rfl fun e he=>?_
 rcases QW.1 he with he | he
 ·obtain⟨e0,h0,rfl⟩:=Qcy he
  obtain⟨h1,h2⟩:=h.en h0
  refine⟨fun hc=>?_,h2⟩
  obtain⟨cs,q1,q2⟩:=h1 hc
  exact⟨cs,by rw[q1,Q1m],T5 (fun id o ho=>h.mm id o (Q0 ho)) q2⟩
 ·exact h.en he
theorem Q6d(hT:Q4 P Y.T)(ze:P.follows .mixedOrders=true)(hK:KsX P Y X K)(hX:X.n=n)(hr:X.res=[])(hp:X.pin=none){S:XS}(h:Rel X β ρ S.flat a w){p:Nat}{zs zf:List Nat}{ht:HT}
  (hb:Q8h l0 p ds=true) (qi:(ds.all fun d=>Nw d S.fix)=true) {k:Hn→XS→Option R}
  (hs:dcI Y K n l0 p ds (Jn S.mem zs).2 (Jn S.fixM zf).2 (Jn S.mem zs).1 (Jn S.fixM zf).1 ht S (Qmc S.env (ds++Cc ht)++S.fix) k=some r) {id:Nat} {Q:Exit→Act→World→Prop}
  (H:∀(β':Nat→Nat) (ρ':Nat→Value) (S':XS) (a':Act) (w':World) (h':Hn),k h' S'=some r→Y6 S S' β β' ρ ρ'→Rel X β' ρ' S'.flat a' w'→wpList P ⟨l0⟩ Q (l0.drop p) a' w'):(Code.region id ⟨l0⟩ true).wp P Q a w:=by
 have hm:=Zz zs S.mem
 have hf:=Zz zf S.fixM
 revert hs hm hf
 generalize (Jn S.mem zs).2=Z1
 generalize (Jn S.mem zs).1=M1
 generalize (Jn S.fixM zf).2=Z2
 generalize (Jn S.fixM zf).1=F1
 intro hs hm hf
 unfold dcI dcR at hs
 have sj:S.flat.mem.Perm ((Z1++Z2)++(M1++F1)):=(hm.symm.append hf.symm).trans (Jmn Z1 M1 Z2 F1)
 have hBm:∀e∈Qmc S.env (ds++Cc ht)++S.fix,e∈S.flat.env∧∀d∈ds,e.t≠d∧∀c∈e.cs,c.1≠d:=fun e he=>by
  rcases QW.1 he with he | he
  ·obtain⟨q1,q2⟩:=Qus he
   exact⟨QZ _ q1,fun d hd=>(q2 d (QZ _ hd)).2⟩
  ·exact⟨QV _ he,fun d hd=>Qct (JN.1 qi d hd) e he⟩
 have h1:Rel X β ρ ⟨Qmc S.env (ds++Cc ht)++S.fix,(M1++F1)++(Z1++Z2)⟩ a w:=Rel.permM (Rel.less h fun e he=>(hBm e he).1) (sj.trans XA)
 have h2:=Rel.permM (Jk2 h1) (XA (l₁:=M1++F1) (l₂:=Z1++Z2))
 refine Q6c hT ze hK hX hr hp (prB:=O7 (Qmc S.env (ds++Cc ht)++S.fix)++Jc ((Z1++Z2)++(M1++F1))++S.prot) (Mb:=M1++F1) h2 (fun e he d hd _=>?_) (fun e he i hi=>?_) (fun i hi=>QZ _ (QV _ hi)) hb hs
  (fun hh z6 acc hk=>?_) (fun i hi=>QZ _ (QZ _ hi)) fun β' ρ' a' w' hh z6 acc hk qf hbT xg hR=>?_
 ·rcases QW.1 he with he | he
  ·obtain⟨e0,q1,rfl⟩:=Qcy he
   exact(hBm e0 q1).2 d hd
  ·exact(hBm e he).2 d hd
 ·refine QZ _ (QZ _ ?_)
  rcases QW.1 he with he | he
  ·obtain⟨e0,q1,rfl⟩:=Qcy he
   exact Q1j q1 (Qis hi)
  ·exact Q1j he hi
 ·have:=(bvT hk).1
  simp only[QQ]at this
  exact this.1
 ·obtain⟨uz,hk⟩:=bvT hk
  simp only[QQ]at uz
  obtain⟨uz,hkf⟩:=uz
  have ye:(Vb (Z1++Z2)).Nodup:=by
   unfold Jks at uz
   simp only[QQ]at uz
   exact(ZX.1 (R4 uz.1.1.1.2)).1
  refine H β' ρ' _ a' w' hh hk ⟨rfl,rfl,rfl,fun i hi=>xg i (QV _ hi)⟩ ?_
  have e2:F2 (Vb Z2) (Z1++Z2) acc W6=Z2:=by
   unfold F2 Vb
   rw[List.filterMap_map]
   refine(Y3 (f:=some) fun q hq=>?_).trans WW
   have ek:q.1∈Vb Z2:=QY.2 ⟨q,hq,rfl⟩
   have hl:=Qgs ye q (QV _ hq)
   simp only[Function.comp,hl]
   rw[Quy fun g hg=>qf q.1 (fun hc uk hw=>C9 (JN.1 hkf hc uk) hw ek) g hg]
   rfl
  have e1:F2 (Vb (Z1++Z2)++Kn z6) (Z1++Z2) acc W6=(F2 (Vb Z1) (Z1++Z2) acc W6++Z2)++F2 (Kn z6) (Z1++Z2) acc W6:=by
   rw[Qcz,Qxr,Qcz,e2]
  have e3:F2 (Vb Z1++Kn z6) (Z1++Z2) acc W6=F2 (Vb Z1) (Z1++Z2) acc W6++F2 (Kn z6) (Z1++Z2) acc W6:=Qcz
  rw[e1]at hR
  have xw:(((F2 (Vb Z1) (Z1++Z2) acc W6++Z2)++F2 (Kn z6) (Z1++Z2) acc W6)++(M1++F1)).Perm ((F2 (Vb Z1++Kn z6) (Z1++Z2) acc W6++M1)++S.fixM):=by
   rw[e3]
   have p1:((F2 (Vb Z1) (Z1++Z2) acc W6++Z2)++F2 (Kn z6) (Z1++Z2) acc W6).Perm ((F2 (Vb Z1) (Z1++Z2) acc W6++F2 (Kn z6) (Z1++Z2) acc W6)++Z2):=by
    rw[QH,QH]
    exact List.Perm.append_left _ XA
   exact((p1.append_right _).trans (Jmn _ _ _ _)).trans (List.Perm.append_left _ hf)
  refine Rel.less (Rel.permM hR xw) fun e he=>?_
  rcases QW.1 he with he | he
  ·rcases QW.1 he with he | he
   ·exact QZ _ he
   ·exact QV _ (QV _ (QZ _ he))
  ·exact QV _ (QV _ (QV _ he))
end
end Gx

/- Ranges over maps: what is set aside in a round; the entries that are left. -/
namespace Gx
open Go Go.RowKit Gd
set_option linter.unusedVariables false
set_option linter.unusedSimpArgs false
section
variable {P:Program} {Y:TX} {X:Cx} {β β':Nat→Nat} {ρ ρ':Nat→Value} {S S':St} {a a':Act} {w w':World} {Dx:List DF} {F:List TL}
def Da(X:Cx)(β:Nat→Nat)(ρ:Nat→Value)(S:St)(Dx:List DF)(F:List TL)(a:Act)(w:World):Prop :=
 Sb (fun _=>0) X [] (Dx++S.env.map (enD β ρ a)) [] (Qg β ρ S.mem++F) a w
abbrev okF(X:Cx)(β:Nat→Nat)(ρ:Nat→Value)(mem:List (Nat×Ob))(F:List TL)(w:World):Ok:=Jf X.ok X.w.heap.size (fun _=>0) [] (Qg β ρ mem++F) w
theorem Q6e{gl:List (Nat×Σ t:Ty,t.De)}(hG:Vs gl (okN X) X.w)(hr:X.res=[])(hp:X.pin=none)(h:Da X β ρ S Dx F a w)(hV:Vg S.mem=true) :
    ∃X1:Cx,X1.n=X.n∧X1.res=[]∧X1.pin=none∧Vs gl (okN X1) X1.w∧Rel X1 β ρ S a w ∧
      ∀(β':Nat→Nat) (ρ':Nat→Value) (S':St) (a':Act) (w':World),Rel X1 β' ρ' S' a' w'→Da X β' ρ' S' Dx F a' w':=by
  have hS:Sb (fun _=>0) X [] (Dx++S.env.map (enD β ρ a)) [] (Qg β ρ S.mem++F) a w:=h
  have hL1:∀t∈Qg β ρ S.mem,∀g,t.blks g→g∈Xt w.heap.size (Qg β ρ S.mem):=fun t ht g hg=>by
    unfold Xt
    exact JJ.2 ⟨JT.2 (hS.olt (QZ _ ht) hg),by simp only[decide_eq_true_eq]; exact⟨t,ht,hg⟩⟩
  have hL2:∀g∈Xt w.heap.size (Qg β ρ S.mem),∃t∈Qg β ρ S.mem,t.blks g:=fun g hg=>by
    unfold Xt at hg
    have:=(JJ.1 hg).2
    simpa only[decide_eq_true_eq]using this
  have xz:∀t∈Qg β ρ S.mem,∀b o,t.blks b→t.cov b o:=fun t ht b o hb=>by
    obtain⟨q,hq,rfl⟩:=QY.1 ht
    exact T8 hV hq hb
  have hk:∀b f,Jf X.ok X.w.heap.size (fun _=>0) [] (Qg β ρ S.mem++F) w b f→Jf (okL (Xt w.heap.size (Qg β ρ S.mem)) (Jf X.ok X.w.heap.size (fun _=>0) [] (Qg β ρ S.mem++F) w)) w.heap.size (fun _=>0) [] (Qg β ρ S.mem) w b f :=
    fun b f kn=>⟨.inl (.inl kn),kn.2.1,by simp,fun t ht hc=>kn.2.2.2 t (QZ _ ht) hc⟩
  refine⟨{ cxL (Xt w.heap.size (Qg β ρ S.mem)) X.n (Jf X.ok X.w.heap.size (fun _=>0) [] (Qg β ρ S.mem++F) w) w with dfs:=X.dfs },rfl,rfl,rfl,?_,?_,fun β' ρ' S' a' w' hR=>?_⟩
  · exact(Lt hS hG).weak fun b f kn=>⟨.inl kn,fun xy=>by
      obtain⟨t,ht,hg⟩:=hL2 b xy
      exact kn.2.2.2 t (QZ _ ht) (xz t ht b f hg),kn.2.1⟩
  · exact { sz:=hS.sz,df:=hS.df,fr:=by simp,pn:=by simp,tm:=by simp,bel:=Ud.refl _ _ _,obj:=by simp,dHH:=by simp,dHO:=by simp,
            dat:=Jg.2 fun x hx=>by
              obtain⟨e,he,rfl⟩:=QY.1 hx
              exact(enD β ρ a e).weak (Jg.1 hS.dat _ (QV _ (QY.2 ⟨e,he,rfl⟩))) hk,
            own:=fun t ht=>⟨t.weak (hS.own t (QZ _ ht)).1 hk,fun g hg=>.inr (hL1 t ht g hg)⟩,
            dOO:=(QM.1 hS.dOO).1 }
  · have hC:=Sb.callO (O1':=Qg β' ρ' S'.mem) hS hR.bel hL2 xz (fun t ht=>⟨(hR.own t ht).1,fun g hg=>(hR.own t ht).2 g hg⟩) hR.dOO
    exact { sz:=hR.sz,df:=hR.df,fr:=by rw[hr]; simp,pn:=by rw[hp]; simp,tm:=by simp,bel:=hC.bel,obj:=by simp,own:=hC.own,dHH:=by simp,dHO:=by simp,dOO:=hC.dOO,
            dat:=Jg.2 fun x hx=>by
              rcases QW.1 hx with hx | hx
              · exact Jg.1 hC.dat _ (QZ _ hx)
              · obtain⟨e,he,rfl⟩:=QY.1 hx
                have h1:=Jg.1 hR.dat _ (QY.2 ⟨e,he,rfl⟩)
                exact(enD β' ρ' a' e).weak h1 fun b f hbf=>Rx hS hR.bel.size hL2 b f hbf }
theorem Da.en(h:Da X β ρ S Dx F a w){e:En}(he:e∈S.env):(enD β ρ a e).p (okF X β ρ S.mem F w) w:=Jg.1 h.dat _ (QV _ (QY.2 ⟨e,he,rfl⟩))
theorem Da.act(h:Da X β ρ S Dx F a w){env':List En}(hs:a'.tmps.size=a.tmps.size)(hd:a'.defers=a.defers)(hr:X.res=[])
  (he:∀e∈env',(enD β ρ a' e).p (okF X β ρ S.mem F w) w):Da X β ρ ⟨env',S.mem⟩ Dx F a' w :=
 {sz:=hs.trans h.sz,df:=hd.trans h.df,fr:=by rw[hr]; simp,pn:=h.pn,tm:=by simp,bel:=h.bel,
  dat:=Jg.2 fun d hd=>by
   rcases QW.1 hd with hd | hd
   ·exact Jg.1 h.dat _ (QZ _ hd)
   ·obtain⟨e,hm,rfl⟩:=QY.1 hd; exact he e hm,
  obj:=h.obj,own:=h.own,dHH:=h.dHH,dHO:=h.dHO,dOO:=h.dOO }
theorem Da.en_put(h:Da X β ρ S Dx F a w){d:Nat}(v:Value){e:En}(he:e∈Js S.env d):(enD β ρ (a.put (some d) v) e).p (okF X β ρ S.mem F w) w:=by
 obtain⟨h1,h2,h3⟩:=Fx he
 have yg:Ju (a.put (some d) v) e.cs↔Ju a e.cs:=⟨fun hc c hm=>by rw[←Y7 (h3 c hm) v]; exact hc c hm,fun hc c hm=>by rw[Y7 (h3 c hm) v]; exact hc c hm⟩
 refine⟨fun hc=>?_,?_⟩
 ·obtain⟨cs,h4,h5⟩:=(h.en h1).1 (yg.1 hc)
  exact⟨cs,by rw[Qh6 h2]; exact h4,h5⟩
 ·rw[yg,Qh6 h2]; exact(h.en h1).2
theorem Da.del(h:Da X β ρ S Dx F a w)(hr:X.res=[]){d:Nat}(v:Value):Da X β ρ ⟨Js S.env d,S.mem⟩ Dx F (a.put (some d) v) w :=
 h.act (by simp[Act.put]) rfl hr fun e he=>h.en_put v he
theorem Da.put0(h:Da X β ρ S Dx F a w)(hr:X.res=[]){d:Nat}(hd:okD X d=true){x:AV}{c:List Value}(hx:cr β ρ (okF X β ρ S.mem F w) w false x c):Da X β ρ ⟨⟨d,[],x⟩::Js S.env d,S.mem⟩ Dx F (a.put (some d) (x.val c)) w:=by
 refine h.act (by simp[Act.put]) rfl hr fun e he=>?_
 rcases QX.1 he with rfl | he
 ·refine⟨fun _=>⟨c,?_,hx⟩,.inl (Qc _)⟩
  rw[L0 (Rj hd)]
  simp[Act.put,h.sz,Tn hd]
 ·exact h.en_put _ he
def Yt(g:Nat)(o:Obj):TL where
 blks:=fun b=>b=g
 cov:=fun b _=>b=g
 cb:=fun h=>h
 p:=fun _ w=>w.heap[g]?=some o
 keep:=fun h hb _=>by rw[hb _ rfl]; exact h
 weak:=fun h _=>h
 lt:=fun h b hb=>by subst hb; exact Yi h
def Qfz{k v:Ty}(xs:List (k.De×v.De))(es:List MapEntry):DF where
 p:=fun ok w=>Xq (rt k) (rt v) ok w xs es
 evo:=fun h he=>W9 h he
 weak:=fun h hk=>Vq h hk
theorem Jb4{k v:Ty}{xs:List (k.De×v.De)}{m:Nat}{env:List En}{M:List (Nat×Ob)}(h:Rel X β ρ ⟨env,(m,.map k v xs)::M⟩ a w)(hr:X.res=[]) :
  ∃es clock,w.heap[β m]?=some (.map es clock)∧(xs.map Prod.fst).Nodup∧(es.toList.map MapEntry.born).Nodup∧(∀e∈es.toList,e.born<clock)∧Xq (rt k) (rt v) (okR X β ρ ((m,.map k v xs)::M) w) w xs es.toList ∧
   ∀o:Obj,Da X β ρ ⟨env,M⟩ [Qfz xs es.toList] [Yt (β m) (.map es clock),Yt w.heap.size o] a (w.alloc o):=by
 have hS:Sb (fun _=>0) X [] (env.map (enD β ρ a)) [] (Ro (β m) (rt k) (rt v) xs::Qg β ρ M) a w:=h
 obtain⟨⟨es,clock,q1,q2,q3,q4,q5⟩,zd⟩:=hS.own _ (.head _)
 refine⟨es,clock,q1,q3,q4,q5,q2,fun o=>?_⟩
 have zo:Below w.heap.size w (w.alloc o):=(Below.refl _ _).alloc (QD _) _
 have kq:Evo (Jf X.ok X.w.heap.size (fun _=>0) [] (Ro (β m) (rt k) (rt v) xs::Qg β ρ M) w) w (w.alloc o):=(Evo.of_below zo).mono fun b o hk=>hk.2.1
 have kj:∀b f,Jf X.ok X.w.heap.size (fun _=>0) [] (Ro (β m) (rt k) (rt v) xs::Qg β ρ M) w b f→Jf X.ok X.w.heap.size (fun _=>0) [] (Qg β ρ M++[Yt (β m) (.map es clock),Yt w.heap.size o]) (w.alloc o) b f:=by
  rintro b f ⟨h1,h2,h3,h4⟩
  refine⟨h1,JU h2 zo.size,h3,fun t ht hc=>?_⟩
  rcases QW.1 ht with ht | ht
  ·exact h4 t (.tail _ ht) hc
  ·rcases QX.1 ht with rfl | ht
   ·exact h4 _ (.head _) hc
   ·rcases QX.1 ht with rfl | ht
    ·have hc:b=w.heap.size:=hc
     omega
    ·cases ht
 have hlt:β m<w.heap.size:=Yi q1
 have hblk:∀g,g<w.heap.size→(w.alloc o).heap[g]?=w.heap[g]?:=fun g hg=>zo.block g hg
 have xc:=QG.1 hS.dOO
 refine { sz:=hS.sz,df:=hS.df,fr:=by rw[hr]; simp,pn:=hS.pn,tm:=by simp,bel:=hS.bel.trans (Ud.of _ (zo.mono hS.bel.size)),obj:=by simp,dHH:=by simp,dHO:=by simp,dat:=?_,own:=?_,dOO:=?_ }
 ·refine Jg.2 fun x hx=>?_
  rcases QW.1 hx with hx | hx
  ·rw[JR]at hx
   subst hx
   exact Vq (W9 q2 kq) kj
  ·exact x.weak (x.evo (Jg.1 hS.dat _ hx) kq) kj
 ·intro t ht
  rcases QW.1 ht with ht | ht
  ·have h1:=hS.own t (.tail _ ht)
   exact⟨t.weak (t.keep h1.1 (fun g hg=>hblk g (t.lt h1.1 g hg)) kq) kj,h1.2⟩
  ·rcases QX.1 ht with rfl | ht
   ·exact⟨by show(w.alloc o).heap[β m]?=_; rw[hblk _ hlt]; exact q1,zd⟩
   ·rcases QX.1 ht with rfl | ht
    ·exact⟨heap_alloc_new w o,fun g hg=>.inl (by have hg:g=w.heap.size:=hg; rw[hg]; exact hS.bel.size)⟩
    ·cases ht
 ·refine QM.2 ⟨xc.2,?_,fun t ht u hu g hg zt=>?_⟩
  ·refine QG.2 ⟨fun u hu g hg zt=>?_,XU _ _⟩
   rw[JR]at hu
   subst hu
   have hg:g=β m:=hg
   have zt:g=w.heap.size:=zt
   omega
  ·rcases QX.1 hu with rfl | hu
   ·exact xc.1 t ht g zt hg
   ·rw[JR]at hu
    subst hu
    have zt:g=w.heap.size:=zt
    have:=t.lt (hS.own t (.tail _ ht)).1 g hg
    omega
theorem Da.unpin{k v:Ty}{xs:List (k.De×v.De)}{m r:Nat}{es:Array MapEntry}{clock:Nat}{o:Obj}(h:Da X β ρ S [Qfz xs es.toList] [Yt (β m) (.map es clock),Yt r o] a w)(hn1:(xs.map Prod.fst).Nodup)
  (hn2:(es.toList.map MapEntry.born).Nodup) (hc:∀e∈es.toList,e.born<clock):Rel X β ρ ⟨S.env,(m,.map k v xs)::S.mem⟩ a w:=by
 have hS:Sb (fun _=>0) X [] ([Qfz xs es.toList]++S.env.map (enD β ρ a)) [] (Qg β ρ S.mem++[Yt (β m) (.map es clock),Yt r o]) a w:=h
 have kj:∀b f,Jf X.ok X.w.heap.size (fun _=>0) [] (Qg β ρ S.mem++[Yt (β m) (.map es clock),Yt r o]) w b f→Jf X.ok X.w.heap.size (fun _=>0) [] (Ro (β m) (rt k) (rt v) xs::Qg β ρ S.mem) w b f:=by
  rintro b f ⟨h1,h2,h3,h4⟩
  refine⟨h1,h2,h3,fun t ht hc=>?_⟩
  rcases QX.1 ht with rfl | ht
  ·exact h4 (Yt (β m) (.map es clock)) (QV _ (.head _)) hc
  ·exact h4 t (QZ _ ht) hc
 have xc:=QM.1 hS.dOO
 have kz:=hS.own (Yt (β m) (.map es clock)) (QV _ (.head _))
 have uv:Xq (rt k) (rt v) _ w xs es.toList:=Jg.1 hS.dat (Qfz xs es.toList) (.head _)
 refine { sz:=hS.sz,df:=hS.df,fr:=hS.fr,pn:=hS.pn,tm:=by simp,bel:=hS.bel,obj:=by simp,dHH:=by simp,dHO:=by simp,dat:=?_,own:=?_,dOO:=?_ }
 ·exact Jg.2 fun x hx=>x.weak (Jg.1 hS.dat _ (QV _ hx)) kj
 ·intro t ht
  rcases QX.1 ht with rfl | ht
  ·exact⟨⟨es,clock,kz.1,Vq uv kj,hn1,hn2,hc⟩,kz.2⟩
  ·have h1:=hS.own t (QZ _ ht)
   exact⟨t.weak h1.1 kj,h1.2⟩
 ·exact QG.2 ⟨fun t ht g hg zt=>xc.2.2 t ht _ (.head _) g zt hg,xc.1⟩
theorem Da.setI{g r:Nat}{om o o':Obj}(h:Da X β ρ S Dx [Yt g om,Yt r o] a w){w1:World}(hw:w1=w∨w1=w.drew):Da X β ρ S Dx [Yt g om,Yt r o'] a (Go.ChangeMaps.setBlock w1 r o'):=by
 have hS:Sb (fun _=>0) X [] (Dx++S.env.map (enD β ρ a)) [] ((Qg β ρ S.mem++[Yt g om])++Yt r o::[]) a w:=by
  have e:(Qg β ρ S.mem++[Yt g om])++Yt r o::[]=Qg β ρ S.mem++[Yt g om,Yt r o]:=by simp
  rw[e]; exact h
 have hp:w.heap[r]?=some o:=(hS.own (Yt r o) (by simp)).1
 have hlt:=Yi hp
 have py:w1.heap=w.heap:=by rcases hw with rfl | rfl<;>rfl
 have:=Sb.upd (t':=Yt r o') (w':=Go.ChangeMaps.setBlock w1 r o') hS rfl (by rcases hw with rfl | rfl<;>rfl) (by rcases hw with rfl | rfl<;>rfl) (by rcases hw with rfl | rfl<;>rfl) (by simp[Go.ChangeMaps.setBlock,py])
  (fun b hb hn=>by
   have hn:¬ b=r:=hn
   simp only[Go.ChangeMaps.setBlock,py]
   rw[Array.getElem?_setIfInBounds_ne (fun e=>hn e.symm)]) (fun b o hb=>hb) (fun g hg=>.inl hg)
  (fun _ _=>by
   show(Go.ChangeMaps.setBlock w1 r o').heap[r]?=some o'
   simp[Go.ChangeMaps.setBlock,py,hlt])
 have e:(Qg β ρ S.mem++[Yt g om])++Yt r o'::[]=Qg β ρ S.mem++[Yt g om,Yt r o']:=by simp
 rw[e]at this
 exact this
end
theorem Jb5{ε σ τ:Type}{f:ε→σ→Option (σ⊕τ)}{e:ε}{s:σ}:Rw f [e] s=f e s:=by
 simp only[Rw]
 split<;>simp_all
theorem Q1s{ε σ τ:Type}{f:ε→σ→Option (σ⊕τ)}{l:List ε}{s:σ}{z:σ⊕τ}(h:Qw9 f l s=some z):∀ys:List ε,ys.Perm l→Rw f ys s=some z:=by
 intro ys hp
 match l,h with
 | [],h =>
  have:=hp.eq_nil
  subst this
  exact h
 | [e],h =>
  have:=List.perm_singleton.1 hp
  subst this
  rw[Jb5]; exact h
 | e::e'::l,h =>
  simp only[Qw9,Q0u]at h
  split at h
  ·rename_i hc
   rw[hc ys hp]; exact h
  ·cases h
def Fi{κ:Type}:List MapEntry→List κ→Array Nat→List κ
 | e::es,x::xs,seen=>bif seen.contains e.born then Fi es xs seen else x::Fi es xs seen
 | _,_,_=>[]
theorem Qmi{κ:Type}:∀{es:List MapEntry} {xs:List κ},es.length=xs.length→Fi es xs #[]=xs
 | [],[],_=>rfl
 | e::es,x::xs,h=>by
  simp only[Fi]
  rw[Qmi (es:=es) (xs:=xs) (by simpa using h)]
  simp
 | [],_::_,h=>by simp at h
 | _::_,[],h=>by simp at h
theorem Quz{κ:Type}{b:Nat}{seen:Array Nat}:∀{es:List MapEntry} {xs:List κ},(∀e∈es,e.born≠b)→Fi es xs (seen.push b)=Fi es xs seen
 | [],xs,_=>by simp[Fi]
 | e::es,[],_=>by simp[Fi]
 | e::es,x::xs,h=>by
  have h1:(seen.push b).contains e.born=seen.contains e.born:=by
   have:=h e (.head _)
   rw[VL]
   simp[this]
  simp only[Fi,h1]
  rw[Quz fun e he=>h e (.tail _ he)]
theorem Qq4{κ:Type}{e:MapEntry}{seen:Array Nat}:∀{es:List MapEntry} {xs:List κ},es.length=xs.length→(es.map MapEntry.born).Nodup→e∈es→seen.contains e.born=false →
  ∃x,(e,x)∈es.zip xs∧(Fi es xs seen).Perm (x::Fi es xs (seen.push e.born))
 | [],_,_,_,he,_=>by cases he
 | e0::es,[],h,_,_,_=>by simp at h
 | e0::es,x0::xs,h,hn,he,hs=>by
  have wj:e0.born∉es.map MapEntry.born∧(es.map MapEntry.born).Nodup:=JA.1 hn
  rcases QX.1 he with rfl | he
  ·refine⟨x0,.head _,?_⟩
   have h1:(seen.push e.born).contains e.born=true:=by simp
   simp only[Fi,hs,h1,cond_true,cond_false]
   rw[Quz fun e' um hb=>wj.1 (QY.2 ⟨e',um,hb⟩)]
  ·obtain⟨x,h1,h2⟩:=Qq4 (xs:=xs) (by simpa using h) wj.2 he hs
   refine⟨x,.tail _ h1,?_⟩
   have k8:e0.born≠e.born:=fun hb=>wj.1 (QY.2 ⟨e,he,hb.symm⟩)
   have h3:(seen.push e.born).contains e0.born=seen.contains e0.born:=by
    rw[VL]
    simp[k8]
   simp only[Fi,h3]
   cases seen.contains e0.born with
   | true=>simpa using h2
   | false =>
    simp only[cond_false]
    exact(h2.cons x0).trans (List.Perm.swap _ _ _)
theorem Qq5{es:Array MapEntry}{seen:Array Nat}{e:MapEntry}(h:e∈(leftOf es seen).toList):e∈es.toList∧seen.contains e.born=false:=by
 unfold leftOf at h
 simp at h
 exact⟨by simpa using h.1,by simpa using h.2⟩
theorem Qq6{κ:Type}{seen:Array Nat}:∀{es:List MapEntry} {xs:List κ},(∀e∈es,seen.contains e.born=true)→Fi es xs seen=[]
 | [],_,_=>by simp[Fi]
 | _::_,[],_=>by simp[Fi]
 | e::es,x::xs,h=>by
  simp only[Fi,h e (.head _),cond_true]
  exact Qq6 fun e he=>h e (.tail _ he)
theorem Q1t{es:Array MapEntry}{seen:Array Nat}(h:(leftOf es seen).size=0):∀e∈es.toList,seen.contains e.born=true:=by
 intro e he
 unfold leftOf at h
 have h0:=Array.eq_empty_of_size_eq_zero h
 rw[Array.filter_eq_empty_iff]at h0
 have:=h0 e (by simpa using he)
 simpa using this
theorem Q1u{es:Array MapEntry}{seen:Array Nat}{e:MapEntry}(h:e∈(leftOf es seen).toList):(leftOf es (seen.push e.born)).size<(leftOf es seen).size:=by
 obtain⟨h1,h2⟩:=Qq5 h
 have hs:∀s:Array Nat,(leftOf es s).size=(es.toList.filter fun x=>!s.contains x.born).length:=fun s=>by
  unfold leftOf
  rw[←Array.toList_filter,XR]
 rw[hs,hs]
 refine filter_lt (fun x=>!seen.contains x.born) (fun x=>!(seen.push e.born).contains x.born) (fun x hx=>?_) e (by rw[h2]; rfl) (by simp) _ h1
 simp at hx ⊢
 exact hx.1
theorem Q1v{k v:Ty}{ok:Ok}{w:World}:∀{xs:List (k.De×v.De)} {es:List MapEntry},Xq (rt k) (rt v) ok w xs es→es.length=xs.length
 | [],es,h=>by have h:es=[]:=h; subst h; rfl
 | x::xs,es,⟨e,es',h,_,_,h3⟩=>by subst h; simp[Q1v h3]
theorem Q1w{k v:Ty}{ok:Ok}{w:World}:∀{xs:List (k.De×v.De)} {es:List MapEntry},Xq (rt k) (rt v) ok w xs es→∀q∈es.zip xs,isV (rt k) ok w q.2.1 q.1.key∧isV (rt v) ok w q.2.2 q.1.val
 | [],es,h,q,hq=>by simp at hq
 | x::xs,es,⟨e,es',h,h1,h2,h3⟩,q,hq=>by
  subst h
  rcases QX.1 hq with rfl | hq
  ·exact⟨h1,h2⟩
  ·exact Q1w h3 q hq
end Gx
