/- Regions, control, functions. -/
import Derived.Test.YtpdhjildhjpjdaaGreatXMe
import Derived.StillTail
import Derived.Test.YtpdhjildhjpjdaaGreatXH
namespace Gx
open Go Go.RowKit Gd
set_option linter.unusedVariables false
set_option linter.unusedSimpArgs false
def Q36(P:Program)(gl:List (Nat×Σ t:Ty,t.De))(K:List Con):Prop:=∀c∈K,Qbb P gl c∧Runs P c.f
def KsX(P:Program)(Y:TX)(X:Cx)(K:List Con):Prop:=Q36 P Y.gl K∧Ud Y.gl (okN X) X.w
theorem Jjg{M:List (Nat×Ob)}(x:AV):(To M x).isAgg=x.isAgg:=by
 cases x with
 | s id =>
  simp only[To]
  split<;>rfl
 | _=>rfl
theorem Q37{M:List (Nat×Ob)}(x:AV)(cs:List Value):(To M x).val cs=x.val cs:=by
 unfold AV.val
 rw[Jjg]
theorem Qlv{M:List (Nat×Ob)}:∀{x:AV} {i:Nat},i∈Jb (To M x)→i∈Jb x
 | .s id,i,h=>by
  simp only[To]at h
  split at h
  ·cases h
  ·exact h
 | .ag l,i,h=>Qlv (x:=l) h
 | .cons x r,i,h=>by
  rcases QX.1 (show i∈Jb (To M x)++Jb (To M r)from h)with h | h
  ·exact List.mem_append_left _ (Qlv h)
  ·exact List.mem_append_right _ (Qlv h)
 | .d ..,i,h=>h
 | .p ..,i,h=>h
 | .e ..,i,h=>h
 | .m _,i,h=>h
 | .b _,i,h=>h
 | .w ..,i,h=>h
 | .a ..,i,h=>h
 | .z,i,h=>h
 | .ns,i,h=>h
 | .np,i,h=>h
 | .nm,i,h=>h
 | .nf,i,h=>h
 | .f ..,i,h=>h
 | .tp _,i,h=>h
 | .nil,i,h=>h
section
variable {β:Nat→Nat} {ρ:Nat→Value} {ok:Ok} {w:World}
theorem Qcv{M:List (Nat×Ob)}(hM:∀id o,Qh M id=some o→(Qv β ρ id o).p ok w):∀{m:Bool} {x:AV} {cs:List Value},cr β ρ ok w m x cs→cr β ρ ok w m (To M x) cs
 | m,.s id,cs,h=>by
  simp only[To]
  split
  ·rename_i e t xs ho
   have h1:=(hM _ _ ho).1
   have h':(∃v,cs=[v]∧zal v (ρ id))∧∃A n c,ρ id=.slice A n c:=by cases m<;>exact h
   obtain⟨⟨v,rfl,hz⟩,_⟩:=h'
   have h2:(rt (.sl t)).rep ok w xs [v]:=⟨_,rfl,U9.1 (Qzc hz h1)⟩
   cases m<;>exact h2
  ·exact h
 | m,.ag l,cs,h=>by
  have h':cr β ρ ok w false l cs:=by cases m<;>exact h
  have:=Qcv hM (m:=false) (x:=l) h'
  cases m<;>exact this
 | true,.cons x r,cs,⟨c1,vs,h1,h2,h3⟩=>⟨c1,vs,by rw[h1,Q37],Qcv hM h2,Qcv hM h3⟩
 | false,.cons x r,cs,⟨c1,c2,h1,h2,h3⟩=>⟨c1,c2,h1,Qcv hM h2,Qcv hM h3⟩
 | m,.d ..,cs,h=>h
 | m,.p ..,cs,h=>h
 | m,.e ..,cs,h=>h
 | m,.m _,cs,h=>h
 | m,.b _,cs,h=>h
 | m,.w ..,cs,h=>h
 | m,.a ..,cs,h=>h
 | m,.z,cs,h=>h
 | m,.ns,cs,h=>h
 | m,.np,cs,h=>h
 | m,.nm,cs,h=>h
 | m,.nf,cs,h=>h
 | m,.f ..,cs,h=>h
 | m,.tp _,cs,h=>h
 | m,.nil,cs,h=>h
end
theorem Sb.replO{β0:Nat→Nat}{X:Cx}{G:GL}{D:List DF}{H:HL}{O1 O2:List TL}{t t':TL}{a:Act}{w:World}(h:Sb β0 X G D H (O1++t::O2) a w)(h1:∀g,t'.blks g↔t.blks g)(h2:∀b o,t'.cov b o↔t.cov b o)
  (hp:t'.p (Je X.ok X.w.heap.size β0 H (O1++t::O2) w) w):Sb β0 X G D H (O1++t'::O2) a w:=by
 have hmem:∀u∈O1++t'::O2,u=t'∨u∈O1++t::O2:=fun u hu=>by
  grind
 have ht:t∈O1++t::O2:=List.mem_append_right _ (.head _)
 have hok:∀b o,Je X.ok X.w.heap.size β0 H (O1++t::O2) w b o→Je X.ok X.w.heap.size β0 H (O1++t'::O2) w b o:=fun b o ⟨q1,q2,q3,q4⟩=>⟨q1,q2,q3,fun u hu hc=>by
  grind⟩
 refine { sz:=h.sz,df:=h.df,fr:=h.fr,pn:=h.pn,tm:=h.tm,bel:=h.bel,dat:=h.dat.weak hok,obj:=h.obj,own:=fun u hu=>?_,dHH:=h.dHH,dHO:=fun p hp' u hu=>?_,dOO:=?_ }
 ·rcases hmem u hu with rfl | hu
  ·exact⟨u.weak hp hok,fun g hg=>(h.own t ht).2 g ((h1 g).1 hg)⟩
  ·exact⟨u.weak (h.own u hu).1 hok,(h.own u hu).2⟩
 ·rcases hmem u hu with rfl | hu
  ·exact fun hb=>h.dHO p hp' t ht ((h1 _).1 hb)
  ·exact h.dHO p hp' u hu
 ·have:=h.dOO
  rw[QG,List.pairwise_cons]at this ⊢
  grind
theorem Ju8{X:Cx}{β:Nat→Nat}{ρ:Nat→Value}{a:Act}{w:World}{S:XS}(h:Rel X β ρ S.flat a w){id:Nat}{tid:TypeId}{c:AV}(hm:Qh S.mem id=some (.var tid c)):Rel X β ρ (S.set id (.var tid (To S.flat.mem c))).flat a w:=by
 have hm':Qh S.flat.mem id=some (.var tid c):=Qy hm
 obtain⟨l1,l2,e1,e2,e3⟩:=Jn hm'
 have hE:(S.set id (.var tid (To S.flat.mem c))).flat=⟨S.flat.env,Rq S.flat.mem id (.var tid (To S.flat.mem c))⟩:=by
  grind [XS.flat,XS.set,Wf]
 rw[hE,e2]
 have hO:Qj β ρ S.flat.mem=Qj β ρ l1++Qv β ρ id (.var tid c)::Qj β ρ l2:=by rw[e1]; simp[Qj]
 have hmem:Qj β ρ (l1++(id,Ob.var tid (To S.flat.mem c))::l2)=Qj β ρ l1++Qv β ρ id (.var tid (To S.flat.mem c))::Qj β ρ l2:=by simp[Qj]
 have h0:Sb (fun _=>0) X [] (S.flat.env.map (enD β ρ a)) [] (Qj β ρ l1++Qv β ρ id (.var tid c)::Qj β ρ l2) a w:=by rw[←hO]; exact h
 obtain⟨cs,q1,q2⟩:=(h.ob hm').1
 have hS:=Sb.replO h0 (t':=Qv β ρ id (.var tid (To S.flat.mem c))) (fun _=>Iff.rfl) (fun _ _=>Iff.rfl) (by
  rw[←hO]
  exact⟨cs,q1,Qcv h.mm q2⟩)
 exact Rel.ofSb hS hmem.symm fun e he=>by
  have:=Jh.1 hS.dat _ (QZ.2 ⟨e,he,rfl⟩)
  rw[←hmem]at this
  exact this
section
variable {P:Program} {Y:TX} {X:Cx} {S:XS} {β β':Nat→Nat} {ρ ρ':Nat→Value} {a a':Act} {w w':World} {n N:Nat} {K:List Con}
variable {Q:Exit→Act→World→Prop} {R:Type} {r:R}
theorem Qlw{env:List En}:∀{ts:List Nat},∀e∈Qpx env ts,e∈env
 | [],e,he=>by simp[Qpx]at he
 | t::ts,e,he=>by
  simp only[Qpx]at he
  split at he
  ·rename_i x hx
   rcases QJ.1 he with rfl | he
   ·grind [Zt]
   ·exact Qlw e he
  ·exact Qlw e he
theorem Rel.ent(h:Rel X β ρ S.flat a w)(ks ms:List Nat):Rel X β ρ (S.ent ks ms).flat a w:=by
 have h1:Rel X β ρ ⟨S.env++(Qpx S.env ks++S.fix),S.flat.mem⟩ a w:=Rel.less (S:=S.flat) h fun e he=>by
  rcases QX.1 he with he | he
  ·exact List.mem_append_left _ he
  ·rcases QX.1 he with he | he
   ·exact List.mem_append_left _ (Qlw e he)
   ·exact List.mem_append_right _ he
 refine h1.permM ?_
 simp only[XS.flat,XS.ent]
 have:=Kz ms S.mem
 rw[←List.append_assoc]
 exact((JJ.trans this).append_right _).symm
theorem Qfq(ks ms:List Nat)(S1:St):(S.out ks ms S1).flat=((S.ent ks ms).re S1).flat:=by simp[XS.flat,XS.out,XS.re,XS.ent]
theorem Ma{S0 S':XS}{Γ:Shp}(h:Rel X β ρ S'.flat a w)(hk:S'.fix=S0.fix∧S'.fixM=S0.fixM∧S'.prot=S0.prot){x:Γ.De}(hd:S'.dec Γ=some x) :
  ∃β' ρ',agP S0.prot β β' ρ ρ'∧Rel X β' ρ' (S0.re (enc Γ x)).flat a w:=by
 obtain⟨β',ρ',h1,h2⟩:=XS.dec_ok h hd
 rw[hk.2.2]at h1
 rw[hk.1,hk.2.1]at h2
 exact⟨β',ρ',h1,h2⟩
theorem Qs1(h:Rel X β ρ S.flat a w){t:Nat}{x:AV}(he:Xn S.env t=some ⟨t,[],x⟩):Rel X β ρ (XS.put S t [] x).flat a w:=by
 obtain⟨hm,_⟩:=Zt he
 refine Rel.less (S:=S.flat) h fun e hE=>?_
 rcases QX.1 hE with hE | hE
 ·rcases QJ.1 hE with rfl | hE
  ·exact List.mem_append_left _ hm
  ·exact List.mem_append_left _ (Iq hE).1
 ·exact List.mem_append_right _ hE
theorem Jbw(h:Rel X β ρ S.flat a w){t:Nat}{b:Bool}(he:Xn S.env t=some ⟨t,[],.d .bool b⟩):Rel X β ρ (XS.put S t [] (.d .bool b)).flat a w:=by
 obtain⟨hm,_⟩:=Zt he
 refine Rel.less (S:=S.flat) h fun e hE=>?_
 rcases QX.1 hE with hE | hE
 ·rcases QJ.1 hE with rfl | hE
  ·exact List.mem_append_left _ hm
  ·exact List.mem_append_left _ (Iq hE).1
 ·exact List.mem_append_right _ hE
theorem Vq(hT:Q0 P Y.T)(hK:KsX P Y X K)(hX:X.n=n)(hr:X.res=[]){ops:List Oper}{Q:Exit→Act→World→Prop}:∀{R:Type} {r:R} (h:Hn) {l rest:List Oper} {S:XS} {β:Nat→Nat} {ρ:Nat→Value} {a:Act} {w:World} {k:XS→Option R},
  Rel X β ρ S.flat a w→Va Y K n ops h l S k=some r→KOk P ⟨ops⟩ Q rest X S β ρ k r→wpList P ⟨ops⟩ Q (l++rest) a w
 | R,r,.done,l,rest,S,β,ρ,a,w,k,hS,hs,H=>by
  cases l with
  | nil=>exact H β ρ S a w (by simp_all [Va]) (Vh.refl _ _ _) hS
  | cons o l=>simp[Va]at hs
 | R,r,.n m g,l,rest,S,β,ρ,a,w,k,hS,hs,H=>by
  simp only[Va]at hs
  have:=Qzs (P:=P) (X:=X) (Q:=Q) (r:=r) (Qlk Y n ops) (fun h1 h2 h3=>Ji8 hT hX hr h1 h2 h3) (l1:=l.take m) (rest:=l.drop m++rest) hS hs fun β' ρ' S' a' w' h1 h2 h3=>Vq hT hK hX hr g h3 h1 (H.after h2)
  rwa[←List.append_assoc,List.take_append_drop]at this
 | R,r,.nl m g,l,rest,S,β,ρ,a,w,k,hS,hs,H=>by
  simp only[Va]at hs
  have:=Qzs (P:=P) (X:=X) (Q:=Q) (r:=r) (Gx.stepL Y n ops) (fun h1 h2 h3=>Ji9 hT hX hr h1 h2 h3) (l1:=l.take m) (rest:=l.drop m++rest) hS hs fun β' ρ' S' a' w' h1 h2 h3=>Vq hT hK hX hr g h3 h1 (H.after h2)
  rwa[←List.append_assoc,List.take_append_drop]at this
 | R,r,.call c g,l,rest,S,β,ρ,a,w,k,hS,hs,H=>by
  simp only[Va]at hs
  split at hs
  ·rename_i con o l' hc
   split at hs
   ·rename_i hg
    have hcm:=hK.1 con (List.mem_of_getElem? hc)
    exact Qo6 hX hr hS (Zh (Od hg) _) hcm.1 hK.2 hcm.2 hs fun β' ρ' S' a' w' h1 h2 h3=>Vq hT hK hX hr g h3 h1 (H.after h2)
   ·rename_i t want hg
    split at hs
    ·rename_i t' b he
     split at hs
     ·rename_i hb
      have hbw:b=want:=by simpa using hb
      subst hbw
      obtain⟨cs,h1,h2⟩:=hS.get he (Qf a)
      have h2':cs=_:=h2
      subst h2'
      have hcm:=hK.1 con (List.mem_of_getElem? hc)
      exact Qo6 hX hr hS ((Ug hg).2 h1) hcm.1 hK.2 hcm.2 hs fun β' ρ' S' a' w' h1 h2 h3=>Vq hT hK hX hr g h3 h1 (H.after h2)
     ·cases hs
    ·cases hs
   ·cases hs
  ·cases hs
 | R,r,.br g,l,rest,S,β,ρ,a,w,k,hS,hs,H=>by
  simp only[Va]at hs
  split at hs
  ·rename_i o l'
   split at hs
   ·rename_i hg
    exact Q3y hT hX hr hS (Zh (Od hg) _) hs fun β' ρ' S' a' w' h1 h2 h3=>Vq hT hK hX hr g h3 h1 (H.after h2)
   ·rename_i t want hg
    split at hs
    ·rename_i t' b he
     split at hs
     ·rename_i hb
      have hbw:b=want:=by simpa using hb
      subst hbw
      obtain⟨cs,h1,h2⟩:=hS.get he (Qf a)
      have h2':cs=_:=h2
      subst h2'
      exact Q3y hT hX hr hS ((Ug hg).2 h1) hs fun β' ρ' S' a' w' h1 h2 h3=>Vq hT hK hX hr g h3 h1 (H.after h2)
     ·cases hs
    ·cases hs
   ·cases hs
  ·cases hs
 | R,r,.fz id g,l,rest,S,β,ρ,a,w,k,hS,hs,H=>by
  simp only[Va]at hs
  have h1:Rel X β ρ (XS.flat { S with mem:=Vp [id] S.mem }) a w:=by
   have:=Rel.freeze S.mem (l0:=[]) (F:=S.fixM) (ks:=[id]) hS
   simp only[QF]at this
   exact this
  exact Vq hT hK hX hr g h1 hs (H.after ⟨rfl,rfl,rfl,agP.refl _ _ _⟩)
 | R,r,.keep ts g,l,rest,S,β,ρ,a,w,k,hS,hs,H=>by
  simp only[Va]at hs
  have h1:Rel X β ρ (XS.flat { S with env:=Qpx S.env ts }) a w:=Rel.less (S:=S.flat) hS fun e he=>by
   rcases QX.1 he with he | he
   ·exact List.mem_append_left _ (Qlw e he)
   ·exact List.mem_append_right _ he
  exact Vq hT hK hX hr g h1 hs (H.after ⟨rfl,rfl,rfl,agP.refl _ _ _⟩)
 | R,r,.op src id d g,l,rest,S,β,ρ,a,w,k,hS,hs,H=>by
  simp only[Va]at hs
  obtain⟨S1,β1,ρ1,h1,h2,hs⟩:=Q3o hS hs
  exact Vq hT hK hX hr g h2 hs (H.after h1)
 | R,r,.cl id g,l,rest,S,β,ρ,a,w,k,hS,hs,H=>by
  simp only[Va]at hs
  obtain⟨S1,ρ1,h1,h2,hs⟩:=Qws hS hs
  exact Vq hT hK hX hr g h2 hs (H.after h1)
 | R,r,.fm id g,l,rest,S,β,ρ,a,w,k,hS,hs,H=>by
  simp only[Va]at hs
  obtain⟨S1,h1,h2,hs⟩:=Q3q hS hs
  exact Vq hT hK hX hr g h2 hs (H.after h1)
 | R,r,.md m g,l,rest,S,β,ρ,a,w,k,hS,hs,H=>by simp[Va]at hs
 | R,r,.tl g,l,rest,S,β,ρ,a,w,k,hS,hs,H=>by simp[Va]at hs
 | R,r,.dt _ g,l,rest,S,β,ρ,a,w,k,hS,hs,H=>by simp[Va]at hs
 | R,r,.si t i x y,l,rest,S,β,ρ,a,w,k,hS,hs,H=>by
  simp only[Va]at hs
  split at hs
  ·rename_i t' kd v he
   obtain⟨hf,hs⟩:=bvT hs
   split at hs
   ·rename_i hv
    subst hv
    have ht:t'=t:=(Zt he).2
    subst ht
    exact Vq hT hK hX hr x (Qs1 hS he) hs (H.after ⟨rfl,rfl,rfl,agP.refl _ _ _⟩)
   ·exact Vq hT hK hX hr y hS hs H
  ·cases hs
 | R,r,.so t x y,l,rest,S,β,ρ,a,w,k,hS,hs,H=>by simp[Va]at hs
 | R,r,.sp t m ks ms Γ x y g,l,rest,S,β,ρ,a,w,k,hS,hs,H=>by
  simp only[Va]at hs
  split at hs
  ·rename_i t' v he
   have ht':t'=t:=(Zt he).2
   subst ht'
   obtain⟨hb,hs⟩:=bvT hs
   obtain⟨z,hz,hs⟩:=Yq hs
   have hp:=Jbw hS he
   have fin:KOk P ⟨ops⟩ Q (l.drop m++rest) X ((XS.put S t' [] (.d .bool v)).ent ks ms) β ρ (fun S'=>S'.dec Γ) z:=by
    intro β1 ρ1 S' a' w' hd hk h1
    obtain⟨β2,ρ2,h2,h3⟩:=Ma (S0:=(XS.put S t' [] (.d .bool v)).ent ks ms) h1 ⟨hk.fix,hk.fixM,hk.prot⟩ hd
    rw[←Qfq]at h3
    refine Vq hT hK hX hr g h3 hs (H.after ⟨rfl,rfl,rfl,?_⟩)
    exact agP.trans hk.ag h2
   have e:l++rest=l.take m++(l.drop m++rest):=by rw[←List.append_assoc,List.take_append_drop]
   rw[e]
   cases v with
   | true =>
    rw[if_pos rfl]at hz
    exact Vq hT hK hX hr x (hp.ent ks ms) hz fin
   | false =>
    rw[if_neg (by simp)]at hz
    exact Vq hT hK hX hr y (hp.ent ks ms) hz fin
  ·cases hs
theorem Qcw:∀{R:Type} {r:R} (h:Hn) {S:XS} {β:Nat→Nat} {ρ:Nat→Value} {k:XS→Option R},Rel X β ρ S.flat a w→Tp h S k=some r→∃S' β' ρ',k S'=some r∧Vh S S' β β' ρ ρ'∧Rel X β' ρ' S'.flat a w
 | R,r,.done,S,β,ρ,k,hS,hs=>⟨S,β,ρ,hs,Vh.refl _ _ _,hS⟩
 | R,r,.fz id g,S,β,ρ,k,hS,hs=>by
  simp only[Tp]at hs
  have h1:Rel X β ρ (XS.flat { S with mem:=Vp [id] S.mem }) a w:=by
   have:=Rel.freeze S.mem (l0:=[]) (F:=S.fixM) (ks:=[id]) hS
   simp only[QF]at this
   exact this
  obtain⟨S',β',ρ',q1,q2,q3⟩:=Qcw g h1 hs
  exact⟨S',β',ρ',q1,⟨q2.fix,q2.fixM,q2.prot,q2.ag⟩,q3⟩
 | R,r,.op src id d g,S,β,ρ,k,hS,hs=>by
  simp only[Tp]at hs
  obtain⟨S1,β1,ρ1,h1,h2,hs⟩:=Q3o hS hs
  obtain⟨S',β',ρ',q1,q2,q3⟩:=Qcw g h2 hs
  exact⟨S',β',ρ',q1,h1.trans q2,q3⟩
 | R,r,.cl id g,S,β,ρ,k,hS,hs=>by
  simp only[Tp]at hs
  obtain⟨S1,ρ1,h1,h2,hs⟩:=Qws hS hs
  obtain⟨S',β',ρ',q1,q2,q3⟩:=Qcw g h2 hs
  exact⟨S',β',ρ',q1,h1.trans q2,q3⟩
 | R,r,.fm id g,S,β,ρ,k,hS,hs=>by
  simp only[Tp]at hs
  obtain⟨S1,h1,h2,hs⟩:=Q3q hS hs
  obtain⟨S',β',ρ',q1,q2,q3⟩:=Qcw g h2 hs
  exact⟨S',β',ρ',q1,h1.trans q2,q3⟩
 | R,r,.n _ _,S,β,ρ,k,hS,hs=>by simp[Tp]at hs
 | R,r,.nl _ _,S,β,ρ,k,hS,hs=>by simp[Tp]at hs
 | R,r,.md _ _,S,β,ρ,k,hS,hs=>by simp[Tp]at hs
 | R,r,.keep _ _,S,β,ρ,k,hS,hs=>by simp[Tp]at hs
 | R,r,.sp _ _ _ _ _ _ _ _,S,β,ρ,k,hS,hs=>by simp[Tp]at hs
 | R,r,.call _ _,S,β,ρ,k,hS,hs=>by simp[Tp]at hs
 | R,r,.tl _,S,β,ρ,k,hS,hs=>by simp[Tp]at hs
 | R,r,.dt id g,S,β,ρ,k,hS,hs=>by
  simp only[Tp]at hs
  split at hs
  ·rename_i tid c hm
   obtain⟨S',β',ρ',q1,q2,q3⟩:=Qcw g (Ju8 hS hm) hs
   exact⟨S',β',ρ',q1,⟨q2.fix,q2.fixM,q2.prot,q2.ag⟩,q3⟩
  ·cases hs
 | R,r,.so _ _ _,S,β,ρ,k,hS,hs=>by simp[Tp]at hs
 | R,r,.si _ _ _ _,S,β,ρ,k,hS,hs=>by simp[Tp]at hs
def TOk(P:Program)(ops:Array Oper)(Q:Act→Prop)(rest:List Oper)(X:Cx)(w:World)(S0:XS)(β:Nat→Nat)(ρ:Nat→Value){R:Type}(k:XS→Option R)(r:R):Prop :=
 ∀(β':Nat→Nat) (ρ':Nat→Value) (S':XS) (a':Act),k S'=some r→Vh S0 S' β β' ρ ρ'→Rel X β' ρ' S'.flat a' w→wpStill P ops w Q rest a'
theorem TOk.after{ops:Array Oper}{Q:Act→Prop}{rest:List Oper}{k:XS→Option R}(h:TOk P ops Q rest X w S β ρ k r){S1:XS}{β1:Nat→Nat}{ρ1:Nat→Value}(hk:Vh S S1 β β1 ρ ρ1):TOk P ops Q rest X w S1 β1 ρ1 k r :=
 fun β' ρ' S' a' h1 h2 h3=>h β' ρ' S' a' h1 (hk.trans h2) h3
section
variable {ops:List Oper} {Qs:Act→Prop} {rest:List Oper} {k:XS→Option R}
theorem Q38{o:Oper}(hw:Region.wanted o (yielded ⟨ops⟩ a.tmps)=true){v:Value}(hr:(execOp a.eval o).run P w=.ok (.value v) w)(h:wpStill P ⟨ops⟩ w Qs rest (a.put o.dst v)):wpStill P ⟨ops⟩ w Qs (o::rest) a:=by
 simp_all [wpStill,if_pos,Oper.still,Oper.stillUpon_value]
theorem Qs2{o:Oper}(hw:Region.wanted o (yielded ⟨ops⟩ a.tmps)=false)(h:wpStill P ⟨ops⟩ w Qs rest (a.put o.dst undef)):wpStill P ⟨ops⟩ w Qs (o::rest) a:=by
 simp_all [wpStill,if_neg]
theorem Qs3(hT:Q0 P Y.T)(hX:X.n=n)(hr:X.res=[])(h:Rel X β ρ S.flat a w){o:Oper}(hw:Region.wanted o (yielded ⟨ops⟩ a.tmps)=true)(hs:Q3j Y n o S k=some r)(H:TOk P ⟨ops⟩ Qs rest X w S β ρ k r):wpStill P ⟨ops⟩ w Qs (o::rest) a:=by
 unfold Q3j at hs
 split at hs
 ·rename_i d hd
  obtain⟨hb,hs⟩:=bvT hs
  obtain⟨av,hk,hsem⟩:=Q3d (P:=P) hT rfl hs
  obtain⟨h1,h2⟩:=Y2 hb hX hr
  obtain⟨cs,h3,h4⟩:=hsem h.toW (Qf a)
  refine Q38 hw h3 ?_
  rw[hd]
  refine H β ρ _ _ hk (Ed S d [] av) ?_
  rw[Kx h2]
  exact h.put0 h1 h4
 ·cases hs
theorem Q39(hX:X.n=n)(hr:X.res=[])(h:Rel X β ρ S.flat a w){o:Oper}(hw:Region.wanted o (yielded ⟨ops⟩ a.tmps)=false)(hs:Qfl n o S k=some r)(H:TOk P ⟨ops⟩ Qs rest X w S β ρ k r):wpStill P ⟨ops⟩ w Qs (o::rest) a:=by
 refine Qs2 hw ?_
 unfold Qfl at hs
 split at hs
 ·rename_i d hd
  obtain⟨hb,hk⟩:=bvT hs
  obtain⟨h1,h2⟩:=Y2 hb hX hr
  rw[hd]
  refine H β ρ _ _ hk (Ed S d [] _) ?_
  rw[Kx h2]
  exact h.put0 h1 (x:=.tp .nil) (c:=[.tuple #[]]) ⟨[],rfl,rfl⟩
 ·rename_i hd
  rw[hd]
  exact H β ρ _ _ hs (Vh.refl _ _ _) h
theorem Jfd(hT:Q0 P Y.T)(hX:X.n=n)(hr:X.res=[])(h:Rel X β ρ S.flat a w){o:Oper}{t:Nat}{want:Bool}(hg:Qju ops o=some (some (t,want)))(hs:Qlj Y n t want o S k=some r)(H:TOk P ⟨ops⟩ Qs rest X w S β ρ k r) :
  wpStill P ⟨ops⟩ w Qs (o::rest) a:=by
 unfold Qlj at hs
 split at hs
 ·rename_i t' cs b d he hd
  obtain⟨hb,hs⟩:=bvT hs
  simp only[QQ]at hb
  obtain⟨h1,h2⟩:=Y2 hb.1.1 hX hr
  have htd:=neB hb.1.2
  have hud:∀c∈cs,c.1≠d:=Qfg (by grind)
  split at hs
  ·rename_i v hv
   obtain⟨hm,ht'⟩:=Zt he
   simp only at ht'
   subst ht'
   have hkeep:∀u:Value,J3 (a.put (some d) u) ((t',want)::cs)↔J3 a ((t',want)::cs):=by
    intro u
    have hne:∀c∈(t',want)::cs,c.1≠d:=by
     grind
    exact⟨fun hc c hm=>by rw[←Vs (hne c hm) u]; exact hc c hm,fun hc c hm=>by rw[Vs (hne c hm) u]; exact hc c hm⟩
   by_cases hw:Region.wanted o (yielded ⟨ops⟩ a.tmps)=true
   ·have htb:=(Ug hg).1 hw
    have hcs:J3 a cs:=by
     rcases(h.en hm).2 with h3 | h3
     ·exact h3
     grind [Om,Qff,undef]
    have hcur:J3 a ((t',want)::cs):=by
     intro c hc
     rcases QJ.1 hc with rfl | hc
     ·exact htb
     ·exact hcs c hc
    obtain⟨c,h3,h4⟩:=Qlg hT h.toW hcur hv
    refine Q38 hw h3 ?_
    rw[hd]
    refine H β ρ _ _ hs (Ed S d _ _) ?_
    rw[Kx h2]
    exact h.put h1 (fun _=>⟨c,rfl,h4⟩) (.inl ((hkeep _).2 hcur))
   ·have hw':Region.wanted o (yielded ⟨ops⟩ a.tmps)=false:=by simpa using hw
    refine Qs2 hw' ?_
    rw[hd]
    refine H β ρ _ _ hs (Ed S d _ _) ?_
    rw[Kx h2]
    refine h.put h1 (fun hc=>?_) (.inr rfl)
    have:=(hkeep _).1 hc
    exact absurd ((Ug hg).2 (this _ (.head _))) hw
  ·cases hs
 ·cases hs
theorem Jfe(hT:Q0 P Y.T)(hX:X.n=n)(hr:X.res=[])(h:Rel X β ρ S.flat a w){o:Oper}(hs:Qzj Y n ops o S k=some r)(H:TOk P ⟨ops⟩ Qs rest X w S β ρ k r):wpStill P ⟨ops⟩ w Qs (o::rest) a:=by
 grind [Qzj,Qs3,Zh,Od,Jfd]
theorem Jff(hT:Q0 P Y.T)(hX:X.n=n)(hr:X.res=[])(h:Rel X β ρ S.flat a w){o:Oper}(hs:Qzk Y n ops o S k=some r)(H:TOk P ⟨ops⟩ Qs rest X w S β ρ k r):wpStill P ⟨ops⟩ w Qs (o::rest) a:=by
 unfold Qzk at hs
 split at hs
 ·grind [Qs3,Zh,Od]
 ·rename_i t want hg
  split at hs
  ·rename_i t' b he
   obtain⟨cs,h1,h2⟩:=h.get he (Qf a)
   have h2':cs=_:=h2
   subst h2'
   have h1':a.tmps[t]?=some (.bool b):=h1
   split at hs
   ·grind [Qs3,Ug]
   ·rename_i hb
    refine Q39 hX hr h ?_ hs H
    have hne:b≠want:=by simpa using hb
    cases hw:Region.wanted o (yielded ⟨ops⟩ a.tmps)with
    | false=>rfl
    | true =>
     have:=(Ug hg).1 hw
     rw[h1']at this
     grind
  ·rename_i t' he
   obtain⟨cs,h1,vs,h2,h3⟩:=h.get he (Qf a)
   subst h2
   refine Q39 hX hr h ?_ hs H
   cases hw:Region.wanted o (yielded ⟨ops⟩ a.tmps)with
   | false=>rfl
   | true =>
    have:=(Ug hg).1 hw
    rw[h1]at this
    injection this with this
    cases this
  ·cases hs
 ·cases hs
theorem Qs4(st:Oper→XS→(XS→Option R)→Option R)
  (hst:∀{o:Oper} {rest:List Oper} {S:XS} {β:Nat→Nat} {ρ:Nat→Value} {a:Act} {k:XS→Option R},Rel X β ρ S.flat a w→st o S k=some r→TOk P ⟨ops⟩ Qs rest X w S β ρ k r→wpStill P ⟨ops⟩ w Qs (o::rest) a) :
  ∀{l1 rest:List Oper} {S:XS} {β:Nat→Nat} {ρ:Nat→Value} {a:Act} {k:XS→Option R},Rel X β ρ S.flat a w→Qpy st l1 S k=some r→TOk P ⟨ops⟩ Qs rest X w S β ρ k r→wpStill P ⟨ops⟩ w Qs (l1++rest) a
 | [],rest,S,β,ρ,a,k,h,hs,H=>H β ρ S a hs (Vh.refl _ _ _) h
 | o::l1,rest,S,β,ρ,a,k,h,hs,H=>by
  simp only[Qpy]at hs
  refine hst (rest:=l1++rest) h hs fun β' ρ' S' a' hk hkeep h'=>?_
  exact Qs4 st hst h' hk (H.after hkeep)
end
theorem Qcx(hT:Q0 P Y.T)(hX:X.n=n)(hr:X.res=[]){ops:List Oper}{Qs:Act→Prop}:∀{R:Type} {r:R} (h:Hn) {l rest:List Oper} {S:XS} {β:Nat→Nat} {ρ:Nat→Value} {a:Act} {k:XS→Option R},
  Rel X β ρ S.flat a w→Ox Y n ops h l S k=some r→TOk P ⟨ops⟩ Qs rest X w S β ρ k r→wpStill P ⟨ops⟩ w Qs (l++rest) a
 | R,r,.done,l,rest,S,β,ρ,a,k,hS,hs,H=>by
  cases l with
  | nil=>exact H β ρ S a (by grind [Ox]) (Vh.refl _ _ _) hS
  | cons o l=>simp[Ox]at hs
 | R,r,.n m g,l,rest,S,β,ρ,a,k,hS,hs,H=>by
  simp only[Ox]at hs
  have:=Qs4 (P:=P) (X:=X) (w:=w) (r:=r) (Qzj Y n ops) (fun h1 h2 h3=>Jfe hT hX hr h1 h2 h3) (l1:=l.take m) (rest:=l.drop m++rest) hS hs fun β' ρ' S' a' h1 h2 h3=>Qcx hT hX hr g h3 h1 (H.after h2)
  rwa[←List.append_assoc,List.take_append_drop]at this
 | R,r,.nl m g,l,rest,S,β,ρ,a,k,hS,hs,H=>by
  simp only[Ox]at hs
  have:=Qs4 (P:=P) (X:=X) (w:=w) (r:=r) (Qzk Y n ops) (fun h1 h2 h3=>Jff hT hX hr h1 h2 h3) (l1:=l.take m) (rest:=l.drop m++rest) hS hs fun β' ρ' S' a' h1 h2 h3=>Qcx hT hX hr g h3 h1 (H.after h2)
  rwa[←List.append_assoc,List.take_append_drop]at this
 | R,r,.call c g,l,rest,S,β,ρ,a,k,hS,hs,H=>by simp[Ox]at hs
 | R,r,.fz id g,l,rest,S,β,ρ,a,k,hS,hs,H=>by simp[Ox]at hs
 | R,r,.keep ts g,l,rest,S,β,ρ,a,k,hS,hs,H=>by simp[Ox]at hs
 | R,r,.md m g,l,rest,S,β,ρ,a,k,hS,hs,H=>by simp[Ox]at hs
 | R,r,.cl _ _,l,rest,S,β,ρ,a,k,hS,hs,H=>by simp[Ox]at hs
 | R,r,.op _ _ _ _,l,rest,S,β,ρ,a,k,hS,hs,H=>by simp[Ox]at hs
 | R,r,.fm _ _,l,rest,S,β,ρ,a,k,hS,hs,H=>by simp[Ox]at hs
 | R,r,.tl g,l,rest,S,β,ρ,a,k,hS,hs,H=>by simp[Ox]at hs
 | R,r,.dt _ g,l,rest,S,β,ρ,a,k,hS,hs,H=>by simp[Ox]at hs
 | R,r,.si _ _ _ _,l,rest,S,β,ρ,a,k,hS,hs,H=>by simp[Ox]at hs
 | R,r,.so t x y,l,rest,S,β,ρ,a,k,hS,hs,H=>by simp[Ox]at hs
 | R,r,.sp t m ks ms Γ x y g,l,rest,S,β,ρ,a,k,hS,hs,H=>by
  simp only[Ox]at hs
  split at hs
  ·rename_i t' v he
   have ht':t'=t:=(Zt he).2
   subst ht'
   obtain⟨hb,hs⟩:=bvT hs
   obtain⟨z,hz,hs⟩:=Yq hs
   have hp:=Jbw hS he
   have fin:TOk P ⟨ops⟩ Qs (l.drop m++rest) X w ((XS.put S t' [] (.d .bool v)).ent ks ms) β ρ (fun S'=>S'.dec Γ) z:=by
    intro β1 ρ1 S' a' hd hk h1
    obtain⟨β2,ρ2,h2,h3⟩:=Ma (S0:=(XS.put S t' [] (.d .bool v)).ent ks ms) h1 ⟨hk.fix,hk.fixM,hk.prot⟩ hd
    rw[←Qfq]at h3
    refine Qcx hT hX hr g h3 hs (H.after ⟨rfl,rfl,rfl,?_⟩)
    exact agP.trans hk.ag h2
   have e:l++rest=l.take m++(l.drop m++rest):=by rw[←List.append_assoc,List.take_append_drop]
   rw[e]
   cases v with
   | true =>
    rw[if_pos rfl]at hz
    exact Qcx hT hX hr x (hp.ent ks ms) hz fin
   | false =>
    rw[if_neg (by simp)]at hz
    exact Qcx hT hX hr y (hp.ent ks ms) hz fin
  ·cases hs
theorem Rel.drew(h:Rel X β ρ S.flat a w):Rel X β ρ S.flat a { w with drawn:=w.drawn+1 }:=Sb.below h ((Below.refl _ _).drew)
end
end Gx

/- A region whose order is drawn, by an invariant alone. -/
namespace Gx
open Go Go.RowKit Gd
set_option linter.unusedVariables false
set_option linter.unusedSimpArgs false
section
variable {P:Program} {a:Act} {w:World}
theorem Q83(I:(Nat→Bool)→Act→World→Prop){id:Nat}{l:List Oper}{Q:Exit→Act→World→Prop}(hm:P.follows .mixedOrders=true)(p:Nat)(hIE:∀(E E':Nat→Bool) (a:Act) (w:World),(∀i,i<p→E i=E' i)→I E a w→I E' a w)
  (hple:Nat.ble p l.length=true) (hback:Gd.backB l=true) (hfin:Jsu l p=true) (h0:I (fun _=>false) a w.drew)
  (hstep:∀(E:Nat→Bool) (i:Nat) (o:Oper) (a:Act) (w:World) (Q':Exit→Act→World→Prop),i<p→l[i]?=some o→Qrq l (fun j=>E j=true)→E i=false→(∀e∈o.after.toList,Region.binds .any e=true→E e.on=true)→I E a w →
   (∀a' w',I (fun j=>j==i||E j) a' w'→Q' .normal a' w')→wpList P ⟨l⟩ Q' [o] a w)
  (hend:∀a' w',I (fun _=>true) a' w'→wpList P ⟨l⟩ Q (l.drop p) a' w') :
  (Code.region id ⟨l⟩ true).wp P Q a w:=by
 refine wp_region_any hm ?_
 have hpl:=QK hple
 let E (listed:Array Bool):Nat→Prop:=fun i=>listed.getD i false=true
 let J1 (listed:Array Bool) (a:Act) (w:World):Prop:=(∀k,p≤k→¬ E listed k)∧I (fun i=>listed.getD i false) a w
 let J (listed:Array Bool) (a:Act) (w:World):Prop:=listed.size=l.length∧Qrq l (E listed) ∧
  (J1 listed a w∨(∃k,p<k∧(∀i,i<l.length→(E listed i↔i<k))∧wpList P ⟨l⟩ Q (l.drop k) a w))
 have hset:∀(listed:Array Bool) (i j:Nat),listed.size=l.length→i<l.length→(E (listed.setIfInBounds i true) j↔(j=i∨E listed j)):=by
  intro listed i j hs hi
  simp only[E,QM,Array.getElem?_setIfInBounds,hs]
  grind
 have hsetB:∀(listed:Array Bool) (i j:Nat),listed.size=l.length→i<l.length→(listed.setIfInBounds i true).getD j false=(j==i||listed.getD j false):=by
  grind
 have hgo:∀listed a w,J1 listed a w→(∀j,j<p→E listed j)→wpList P ⟨l⟩ Q (l.drop p) a w:=by
  grind
 have hdone:∀listed a w,J listed a w→(∀i,i<l.length→E listed i)→Q .normal a w:=by
  rintro listed a w ⟨hs,hc,h1 | ⟨k,hk,hE,hw⟩⟩ hall
  ·have hpm:p=l.length:=by
    rcases Nat.lt_or_ge p l.length with hlt | hge
    ·grind
    ·omega
   have:=hgo listed a w h1 fun i hi=>hall i (by omega)
   rw[hpm,ZZ]at this
   exact this
  ·have hkl:l.length≤k:=by
    grind
   rw[ZG hkl]at hw
   exact hw
 have step1:∀(listed:Array Bool) (a:Act) (w:World) (i:Nat) (o:Oper) (Q':Exit→Act→World→Prop),listed.size=l.length→Qrq l (E listed)→J1 listed a w→i<p→l[i]?=some o→¬ E listed i →
   (∀e∈o.after.toList,Region.binds .any e=true→listed.getD e.on false=true)→(∀a' w',J1 (listed.setIfInBounds i true) a' w'→Q' .normal a' w')→wpList P ⟨l⟩ Q' [o] a w:=by
  grind
 have main:∀(fuel:Nat) (listed:Array Bool) (a:Act) (w:World),J listed a w→((List.range l.length).filter fun i=>!listed.getD i false).length≤fuel→wpAny P .any ⟨l⟩ Q fuel listed a w:=by
  intro fuel
  induction fuel with
  | zero =>
   intro listed a w hJ hle
   have hall:∀i,i<l.length→E listed i:=by
    intro i hi
    cases hl:listed.getD i false with
    | true=>exact hl
    | false =>
     have:i∈(List.range l.length).filter fun i=>!listed.getD i false:=QD.2 ⟨JX.2 hi,by rw[hl]; rfl⟩
     have hnil:=QE (Nat.le_zero.1 hle)
     rw[hnil]at this; simp at this
   refine⟨?_,hdone listed a w hJ hall⟩
   apply List.eq_nil_iff_forall_not_mem.2
   intro i hi
   rw[Qm3]at hi
   have h1:=hall i hi.1
   have h2:=hi.2.1
   grind
  | succ fuel ih =>
   intro listed a w hJ hle
   refine⟨fun hr=>hdone listed a w hJ (Q8g hJ.1 hback hr),fun i hi=>?_⟩
   rw[Qm3]at hi
   obtain⟨hil,hnl,o,ho,hpre⟩:=hi
   obtain⟨hs,hc,hcase⟩:=hJ
   have hniE:¬ E listed i:=by
    grind
   have hcl:Qrq l (E (listed.setIfInBounds i true)):=by
    intro j oj hj hoj e he hb
    rw[hset listed i _ hs hil]at hj ⊢
    rcases hj with rfl | hj
    ·rw[ho]at hoj; grind
    ·exact .inr (hc j oj hj hoj e he hb)
   have hcnt:((List.range l.length).filter fun j=>!(listed.setIfInBounds i true).getD j false).length≤fuel:=by
    have hlt:((List.range l.length).filter fun j=>!(listed.setIfInBounds i true).getD j false).length<((List.range l.length).filter fun j=>!listed.getD j false).length:=by
     apply Qs0 (x:=i)
     ·grind
     ·grind
     ·have:=(hset listed i i hs hil).2 (.inl rfl)
      grind
     grind
    omega
   rcases hcase with hJ1 | ⟨k,hk,hE,hw⟩
   ·rcases Nat.lt_or_ge i p with hip | hip
    ·
     exact Qy5 ho (step1 listed a w i o (Exit.then (wpAny P .any ⟨l⟩ Q fuel (listed.setIfInBounds i true)) Q) hs hc hJ1 hip ho hniE hpre fun a' w' hJ1=>ih _ a' w' ⟨by simp[hs],hcl,.inl hJ1⟩ hcnt)
    ·
     have hall:∀j,j<i→E listed j:=fun j hj=>Qaz hc l.length i j (Jbv hfin hip hil hj) fun o' ho'=>by rw[ho]at ho'; injection ho' with ho'; subst ho'; exact hpre
     have hip':i=p:=by
      rcases Nat.lt_or_ge p i with hlt | hge
      ·exact absurd (hall p hlt) (hJ1.1 p (QY _))
      ·omega
     subst hip'
     have hw:=hgo listed a w hJ1 hall
     refine wpOp_mono (fun a w hw'=>ih _ a w ⟨by simp[hs],hcl,.inr ⟨i+1,by omega,fun j hj=>?_,hw'⟩⟩ hcnt) (Qk2 ho hw)
     rw[hset listed i j hs hil]
     grind
   ·
    have hall:∀j,j<i→E listed j:=by
     intro j hj
     have hpi:p<i:=by
      rcases Nat.lt_or_ge i k with h1 | h1
      ·exact absurd ((hE i hil).2 h1) hniE
      ·omega
     exact Qaz hc l.length i j (Jbv hfin (by omega) hil hj) fun o' ho'=>by rw[ho]at ho'; injection ho' with ho'; subst ho'; exact hpre
    have hik:i=k:=by
     rcases Nat.lt_or_ge i k with h1 | h1
     ·exact absurd ((hE i hil).2 h1) hniE
     ·rcases Nat.lt_or_ge k i with h2 | h2
      ·have:=(hE k (by omega)).1 (hall k h2); omega
      ·omega
    subst hik
    refine wpOp_mono (fun a w hw'=>ih _ a w ⟨by simp[hs],hcl,.inr ⟨i+1,by omega,fun j hj=>?_,hw'⟩⟩ hcnt) (Qk2 ho hw)
    rw[hset listed i j hs hil,hE j hj]
    constructor
    ·rintro(rfl | h1)<;>omega
    ·intro h1
     rcases Nat.lt_or_ge j i with h2 | h2
     ·exact .inr h2
     ·exact .inl (by omega)
 refine main _ _ a _ ⟨by simp,fun i o hE=>?_,.inl ⟨fun k _ hE=>?_,?_⟩⟩ ?_
 ·simp only[E]at hE; simp[QM,XV]at hE
  split at hE<;>simp at hE
 ·simp only[E]at hE; simp[QM,XV]at hE
  split at hE<;>simp at hE
 ·refine hIE (fun _=>false) _ a _ (fun i hi=>?_) h0
  simp only[QM,XV]
  split<;>rfl
 grind
end
end Gx

/- One operation, with the rest of the state set aside. -/
namespace Gx
open Go Go.RowKit Gd
set_option linter.unusedVariables false
set_option linter.unusedSimpArgs false
theorem Qcy{β:Nat→Nat}{ρ:Nat→Value}:∀{M:List (Nat×Ob)} {q:Nat×Ob},V2 M=true→q∈M→∀{b o:Nat},(Qv β ρ q.1 q.2).blks b→(Qv β ρ q.1 q.2).cov b o
 | (k,ob)::l,q,h,hq,b,o,hb=>by
  cases ob with
  | tail e t xs=>cases h
  | _ =>
   rcases QJ.1 hq with rfl | hq
   ·exact hb
   ·exact Qcy (M:=l) h hq hb
def Jpy(o:Oper)(a a':Act):Prop:=∀t,o.dst≠some t→a'.tmps[t]?=a.tmps[t]?
def Jpz(o:Oper)(a:Act)(Q:Exit→Act→World→Prop):Exit→Act→World→Prop
 | .normal,a',w'=>Jpy o a a'→Q .normal a' w'
 | e,a',w'=>Q e a' w'
theorem Of(o:Oper)(a:Act)(v:Value):Jpy o a (a.put o.dst v):=by
 intro t ht
 cases hd:o.dst with
 | none=>rfl
 | some d=>grind [Vs]
theorem Q4a{P:Program}{ops:Array Oper}{Q:Exit→Act→World→Prop}{o:Oper}{a:Act}{w:World}(h:wpList P ops (Jpz o a Q) [o] a w):wpList P ops Q [o] a w:=by
 unfold wpList at h ⊢
 split at h
 ·rename_i hw
  rw[if_pos hw]
  rcases h with h | ⟨h1,h2⟩
  ·left
   unfold Oper.wp at h ⊢
   cases hr:(execOp a.eval o).run P w with
   | ok nx w' =>
    rw[hr]at h
    cases nx with
    | value v=>exact h (Of o a v)
    | skip=>exact h (Of o a undef)
    | defer d =>
     refine h fun t ht=>?_
     have:=Of o { a with defers:=d::a.defers } undef t ht
     exact this
    | enter f args =>
     refine Calls.mono h fun e w' he=>?_
     cases e with
     | returned v=>exact he (Of o a v)
     | panicked c=>exact he
     | outgrown=>exact he
    | row r args=>exact Rows.mono h fun v w' hv=>hv (Of o a v)
    | _=>exact h.elim
   | halt hl w' =>
    rw[hr]at h
    cases hl with
    | panic v=>exact h
    | _=>exact h.elim
  ·exact .inr ⟨h1,h2⟩
 ·rename_i hw
  rw[if_neg hw]
  exact h (Of o a undef)
open Classical in
noncomputable def Gb(n:Nat)(O:List TL):List Nat:=(List.range n).filter fun g=>decide (∃t∈O,t.blks g)
section
variable {P:Program} {Y:TX} {X:Cx} {β:Nat→Nat} {ρ:Nat→Value} {a:Act} {w:World} {ops:Array Oper} {Q:Exit→Act→World→Prop} {o:Oper}
theorem Jjh(hG:Ud Y.gl (okN X) X.w)(hr:X.res=[])(hp:X.pin=none){Ve Fe:List En}{Vm Fm:List (Nat×Ob)}{S1:St}{pr:List Nat}(h:Rel X β ρ ⟨Ve++Fe,Vm++Fm⟩ a w)(hV:V2 Vm=true)
    (hF:∀e∈Fe,(∀i∈Jb e.av,i∈pr)∧∀d,o.dst=some d→e.t≠d∧∀c∈e.cs,c.1≠d) (hFm:∀i∈Jc Fm,i∈pr)
    (hstep:∀(X1:Cx) (Q1:Exit→Act→World→Prop),X1.n=X.n→X1.res=[]→X1.pin=none→Ud Y.gl (okN X1) X1.w→Rel X1 β ρ ⟨Ve,Vm⟩ a w→(∀β' ρ' a' w',agP pr β β' ρ ρ'→Rel X1 β' ρ' S1 a' w'→Q1 .normal a' w')→wpList P ops Q1 [o] a w)
    (H:∀β' ρ' a' w',agP pr β β' ρ ρ'→Rel X β' ρ' ⟨S1.env++Fe,S1.mem++Fm⟩ a' w'→Q .normal a' w'):wpList P ops Q [o] a w:=by
  have eM:Qj β ρ (Vm++Fm)=Qj β ρ Vm++Qj β ρ Fm:=QC
  have hS:Sb (fun _=>0) X [] ((Ve++Fe).map (enD β ρ a)) [] (Qj β ρ Vm++Qj β ρ Fm) a w:=by rw[←eM]; exact h
  have hL1:∀t∈Qj β ρ Vm,∀g,t.blks g→g∈Gb w.heap.size (Qj β ρ Vm):=fun t ht g hg=>by
    unfold Gb
    exact QD.2 ⟨JX.2 (hS.olt (List.mem_append_left _ ht) hg),by grind⟩
  have hL2:∀g∈Gb w.heap.size (Qj β ρ Vm),∃t∈Qj β ρ Vm,t.blks g:=fun g hg=>by
    simp_all [Gb,QD,decide_eq_true_eq]
  have hcov:∀t∈Qj β ρ Vm,∀b o,t.blks b→t.cov b o:=fun t ht b o hb=>by
    obtain⟨q,hq,rfl⟩:=QZ.1 ht
    grind [Qcy]
  have hk:∀b f,Je X.ok X.w.heap.size (fun _=>0) [] (Qj β ρ Vm++Qj β ρ Fm) w b f→Je (okL (Gb w.heap.size (Qj β ρ Vm)) (Je X.ok X.w.heap.size (fun _=>0) [] (Qj β ρ Vm++Qj β ρ Fm) w)) w.heap.size (fun _=>0) [] (Qj β ρ Vm) w b f :=
    fun b f hbo=>⟨.inl (.inl hbo),hbo.2.1,by simp,fun t ht hc=>hbo.2.2.2 t (List.mem_append_left _ ht) hc⟩
  refine Q4a (hstep { cxL (Gb w.heap.size (Qj β ρ Vm)) X.n (Je X.ok X.w.heap.size (fun _=>0) [] (Qj β ρ Vm++Qj β ρ Fm) w) w with dfs:=X.dfs } (Jpz o a Q) rfl rfl rfl ?_ ?_ fun β' ρ' a' w' hag hR hsame=>?_)
  · exact(Oe hS hG).weak fun b f hbo=>⟨.inl hbo,fun hbl=>by
      obtain⟨t,ht,hg⟩:=hL2 b hbl
      exact hbo.2.2.2 t (List.mem_append_left _ ht) (hcov t ht b f hg),hbo.2.1⟩
  · exact { sz:=hS.sz,df:=hS.df,fr:=by simp,pn:=by simp,tm:=by simp,bel:=Uz.refl _ _ _,obj:=by simp,dHH:=by simp,dHO:=by simp,
            dat:=Jh.2 fun x hx=>by
              obtain⟨e,he,rfl⟩:=QZ.1 hx
              exact(enD β ρ a e).weak (Jh.1 hS.dat _ (QZ.2 ⟨e,List.mem_append_left _ he,rfl⟩)) hk,
            own:=fun t ht=>⟨t.weak (hS.own t (List.mem_append_left _ ht)).1 hk,fun g hg=>.inr (hL1 t ht g hg)⟩,
            dOO:=(QG.1 hS.dOO).1 }
  · have hC:=Sb.callO (O1':=Qj β' ρ' S1.mem) hS hR.bel hL2 hcov (fun t ht=>⟨(hR.own t ht).1,fun g hg=>(hR.own t ht).2 g hg⟩) hR.dOO
    have hsim:Wn (Qj β ρ Fm) (Qj β' ρ' Fm):=Qwy fun i hi=>hag i (hFm i hi)
    have hC2:=hC.simO ((Wn.refl (Qj β' ρ' S1.mem)).append hsim)
    have hmem:Qj β' ρ' (S1.mem++Fm)=Qj β' ρ' S1.mem++Qj β' ρ' Fm:=QC
    have hC3:Sb (fun _=>0) X [] [] [] (Qj β' ρ' S1.mem++Qj β' ρ' Fm) a' w' :=
      { sz:=hR.sz,df:=hR.df,fr:=by rw[hr]; simp,pn:=by rw[hp]; simp,tm:=by simp,bel:=hC2.bel,dat:=trivial,obj:=by simp,own:=hC2.own,dHH:=by simp,dHO:=by simp,dOO:=hC2.dOO }
    refine H β' ρ' a' w' hag (Rel.ofSb hC3 hmem.symm fun e he=>?_)
    rcases QX.1 he with he | he
    · have h1:=Jh.1 hR.dat _ (QZ.2 ⟨e,he,rfl⟩)
      refine(enD β' ρ' a' e).weak h1 fun b f hbf=>?_
      have h2:=Qa8 hS hR.bel.size hL2 b f hbf
      have h3:=((Wn.refl (Qj β' ρ' S1.mem)).append hsim).ok b f h2
      grind
    · have h1:=Jh.1 hC2.dat _ (QZ.2 ⟨e,List.mem_append_right _ he,rfl⟩)
      obtain⟨hi,hd⟩:=hF e he
      have ht:∀t,(∀d,o.dst=some d→t≠d)→a'.tmps[t]?=a.tmps[t]?:=fun t ht=>hsame t fun hd=>ht t hd rfl
      have hcc:J3 a' e.cs↔J3 a e.cs:=⟨fun hc c hm=>by rw[←ht _ fun d hd'=>(hd d hd').2 c hm]; exact hc c hm,fun hc c hm=>by rw[ht _ fun d hd'=>(hd d hd').2 c hm]; exact hc c hm⟩
      have hrd:rd a' e.t=rd a e.t:=by grind [rd]
      refine⟨fun hc=>?_,?_⟩
      · obtain⟨cs,q1,q2⟩:=h1.1 (hcc.1 hc)
        refine⟨cs,by rw[hrd]; exact q1,?_⟩
        unfold okR
        rw[hmem]
        exact Hi (fun i hm=>hag i (hi i hm)) q2
      · rw[hcc,hrd]; exact h1.2
end
end Gx

/- Regions of open order by ordinary steps: what is found, what is one's own. -/
namespace Gx
open Go Go.RowKit Gd
set_option linter.unusedVariables false
set_option linter.unusedSimpArgs false
theorem Q84{id:Nat}{e:EC}{c:Option Ob}(h:Kk id e=false):upC id e c=c:=by
 unfold Kk at h
 unfold upC
 cases hl:Qo2 e.ups id with
 | none=>rfl
 | some x=>rw[hl]at h; cases h
theorem Sm{E:Nat→Bool}{id:Nat}:∀{l1 l2:List EC} {j:Nat} {c:Option Ob},Y0 E id (l1++l2) j c=Y0 E id l2 (j+l1.length) (Y0 E id l1 j c)
 | [],l2,j,c=>rfl
 | e::l1,l2,j,c=>by
  simp only[QA,Y0,Sm (l1:=l1),List.length_cons]
  rw[show j+1+l1.length=j+(l1.length+1) by omega]
theorem O5{E E':Nat→Bool}{id:Nat}:∀{l:List EC} {j:Nat} {c:Option Ob},(∀(k:Nat) e,l[k]?=some e→Kk id e=true→E (j+k)=E' (j+k))→Y0 E id l j c=Y0 E' id l j c
 | [],j,c,_=>rfl
 | e0::l,j,c,h=>by
  simp only[Y0]
  have e:(bif E j then upC id e0 c else c)=(bif E' j then upC id e0 c else c):=by
   cases ht:Kk id e0 with
   | true=>rw[show E j=E' j from h 0 _ rfl ht]
   | false=>rw[Q84 ht]; cases E j<;>cases E' j<;>rfl
  rw[e]
  exact O5 fun k g hk ht=>by
   have:=h (k+1) g (by simpa using hk) ht
   rw[show j+1+k=j+(k+1) by omega]; exact this
theorem Og{E:Nat→Bool}{id:Nat}:∀{l:List EC} {j:Nat} {c:Option Ob},(∀(k:Nat) e,l[k]?=some e→Kk id e=true→E (j+k)=false)→Y0 E id l j c=c
 | [],j,c,_=>rfl
 | e0::l,j,c,h=>by
  simp only[Y0]
  have e:(bif E j then upC id e0 c else c)=c:=by
   cases ht:Kk id e0 with
   | true=>rw[show E j=false from h 0 _ rfl ht]; rfl
   | false=>rw[Q84 ht]; cases E j<;>rfl
  rw[e]
  exact Og fun k g hk ht=>by
   have:=h (k+1) g (by simpa using hk) ht
   rw[show j+1+k=j+(k+1) by omega]; exact this
theorem Q4b{acc:List EC}{i:Nat}{g:EC}(hg:acc[i]?=some g):acc=acc.take i++g::acc.drop (i+1)∧(acc.take i).length=i:=by
 have hi:i<acc.length:=(List.getElem?_eq_some_iff.1 hg).1
 rw[List.getElem?_eq_getElem hi]at hg
 grind [List.length_take,List.drop_eq_getElem_cons,List.take_append_drop]
section
variable {E:Nat→Bool} {acc:List EC} {i id:Nat} {g:EC} {c:Option Ob}
theorem Jji(hg:acc[i]?=some g)(hi:E i=false)(he:∀(j:Nat) g',acc[j]?=some g'→j<i→Kk id g'=true→E j=true)(hl:∀(j:Nat) g',acc[j]?=some g'→i<j→Kk id g'=true→E j=false) :
  Y0 E id acc 0 c=Y0 Hc id (acc.take i) 0 c:=by
 obtain⟨e1,e2⟩:=Q4b hg
 have e3:Y0 E id acc 0 c=Y0 E id (acc.take i++g::acc.drop (i+1)) 0 c:=by rw[←e1]
 rw[e3,Sm,e2,QV]
 simp only[Y0,hi,cond_false]
 rw[Og fun k g' hk ht=>hl (i+1+k) g' (by rw[JK]at hk; exact hk) (by omega) ht]
 refine O5 fun k g' hk ht=>?_
 rw[JZ]at hk
 split at hk
 ·rw[QV,he k g' hk (by omega) ht]; rfl
 ·cases hk
theorem Jjj(hg:acc[i]?=some g)(hi:E i=false)(hl:∀(j:Nat) g',acc[j]?=some g'→i<j→Kk id g'=true→E j=false) :
  Y0 (Qh2 E i) id acc 0 c=upC id g (Y0 E id acc 0 c):=by
 obtain⟨e1,e2⟩:=Q4b hg
 have e3:∀E,Y0 E id acc 0 c=Y0 E id (acc.take i++g::acc.drop (i+1)) 0 c:=fun E=>by rw[←e1]
 rw[e3,e3,Sm,Sm,e2,QV]
 simp only[Y0,hi,cond_false,BEq.rfl,Bool.true_or,cond_true]
 have h1:Y0 (Qh2 E i) id (acc.take i) 0 c=Y0 E id (acc.take i) 0 c:=O5 fun k g' hk ht=>by
  have:k<i:=by
   rw[JZ]at hk
   grind
  simp only[Qh2,QV]
  rw[show(k==i)=false by simp; omega]; rfl
 have h2:∀c',Y0 (Qh2 E i) id (acc.drop (i+1)) (i+1) c'=c':=fun c'=>Og fun k g' hk ht=>by
  grind
 have h3:∀c',Y0 E id (acc.drop (i+1)) (i+1) c'=c':=fun c'=>Og fun k g' hk ht=>hl (i+1+k) g' (by rw[JK]at hk; exact hk) (by omega) ht
 rw[h2,h3,h1]
 grind
theorem Jjk(hg:acc[i]?=some g)(ht:Kk id g=false):Y0 (Qh2 E i) id acc 0 c=Y0 E id acc 0 c :=
 O5 fun k g' hk ht'=>by
  rw[QV]
  by_cases e:k=i
  ·grind
  grind
theorem Qlx{E:Nat→Bool}:∀{acc:List EC} {j:Nat} {e:En},e∈L9 E acc j→∃(k:Nat) (g:EC),acc[k]?=some g∧E (j+k)=true∧g.has=true∧e=⟨g.d,[],g.av⟩
 | [],j,e,h=>by cases h
 | g::l,j,e,h=>by
  simp only[L9]at h
  cases hb:(E j&&g.has)with
  | true =>
   rw[hb]at h
   simp only[QQ]at hb
   rcases QJ.1 h with rfl | h
   ·exact⟨0,g,rfl,hb.1,hb.2,rfl⟩
   ·obtain⟨k,g',h1,h2,h3,h4⟩:=Qlx h
    exact⟨k+1,g',by simpa using h1,by rw[show j+(k+1)=j+1+k by omega]; exact h2,h3,h4⟩
  | false =>
   rw[hb]at h
   obtain⟨k,g',h1,h2,h3,h4⟩:=Qlx h
   exact⟨k+1,g',by simpa using h1,by rw[show j+(k+1)=j+1+k by omega]; exact h2,h3,h4⟩
theorem Qzy{E:Nat→Bool}:∀{acc:List EC} {j k:Nat} {g:EC},acc[k]?=some g→E (j+k)=true→g.has=true→(⟨g.d,[],g.av⟩:En)∈L9 E acc j
 | [],j,k,g,h,_,_=>by simp at h
 | g0::l,j,0,g,h,h1,h2=>by
  grind [L9]
 | g0::l,j,k+1,g,h,h1,h2=>by
  have:=Qzy (acc:=l) (j:=j+1) (k:=k) (by simpa using h) (by rw[show j+1+k=j+(k+1) by omega]; exact h1) h2
  grind [L9]
end
theorem Jfg{ids:List Nat}:∀{names:List Nat},ids.Nodup→names.Nodup→(∀i∈ids,i∈names)→names.Perm (ids++names.filter fun i=>!Yj ids i):=by
 induction ids with
 | nil =>
  intro names _ _ _
  have:(names.filter fun i=>!Yj [] i)=names:=ZN.2 fun _ _=>rfl
  rw[this]
  grind
 | cons x ids ih =>
  intro names hi hn hs
  have hi':=QN.1 hi
  obtain⟨l1,l2,rfl⟩:=List.append_of_mem (hs x (.head _))
  have hn2:(l1++l2).Nodup∧x∉l1++l2:=by
   have:=(List.perm_middle.nodup_iff (l₁:=l1++x::l2)).1 hn
   grind
  have h1:=ih (names:=l1++l2) hi'.2 hn2.1 fun i him=>by
   have:=hs i (.tail _ him)
   grind
  have e:((l1++x::l2).filter fun i=>!Yj (x::ids) i)=(l1++l2).filter fun i=>!Yj ids i:=by
   have hf:∀l:List Nat,x∉l→(l.filter fun i=>!Yj (x::ids) i)=l.filter fun i=>!Yj ids i:=fun l hx=>by
    refine List.filter_congr fun i him=>?_
    have hne:x≠i:=fun e=>hx (e▸him)
    simp only[Yj,Ju7 hne,ZR]
   rw[List.filter_append,XA]
   have hx0:(!Yj (x::ids) x)=false:=by simp[Yj,Nat.beq_refl]
   rw[hx0]
   grind
  rw[e]
  exact List.perm_middle.trans (List.Perm.cons x h1)
end Gx

/- One operation of a region of open order, by an ordinary step. -/
namespace Gx
open Go Go.RowKit Gd
set_option linter.unusedVariables false
set_option linter.unusedSimpArgs false
theorem Qnt:∀{ids:List Nat} {M:List (Nat×Ob)},ids.Nodup→(Jp M ids).2=ids.filterMap fun t=>Kv t (Qh M t)
 | [],M,_=>rfl
 | t::ts,M,hn=>by
  have hn':=QN.1 hn
  simp only[Jp,JA]
  cases hl:Qh M t with
  | none=>simp only[Kv]; exact Qnt hn'.2
  | some o =>
   simp only[Kv]
   rw[Qnt (M:=J4 M t) hn'.2]
   congr 1
   exact Vg fun j hj=>by rw[Qsk fun(e:j=t)=>hn'.1 (by rw[←e]; exact hj)]; cases Qh M j<;>rfl
theorem Qbf{f:Nat→Option Ob}{id:Nat}:∀{ids:List Nat},Qo2 (ids.map fun i=>(i,f i)) id=if id∈ids then some (f id)else none
 | []=>rfl
 | k::l=>by
  simp only[QT,Qo2]
  cases hb:Nat.beq k id with
  | true =>
   have:=Nat.eq_of_beq_eq_true hb
   subst this
   simp
  | false =>
   have hne:id≠k:=fun e=>by simp_all
   simp only[cond_false,Qbf (ids:=l),QJ,hne,false_or]
section
variable {P:Program} {Y:TX} {X:Cx} {β:Nat→Nat} {ρ:Nat→Value} {a:Act} {w:World} {ops:Array Oper} {Q:Exit→Act→World→Prop} {o:Oper}
theorem Jjl(hG:Ud Y.gl (okN X) X.w)(hr:X.res=[])(hp:X.pin=none){names:List Nat}{Zs Mb:List (Nat×Ob)}{acc:List EC}{E:Nat→Bool}{B Ve:List En}{i:Nat}{g:EC}{tch ro bs pr:List Nat}{S1:XS}
  (h:Rel X β ρ ⟨L9 E acc 0++B,Bn names Zs acc E++Mb⟩ a w) (hg:acc[i]?=some g) (hi:E i=false) (hnn:names.Nodup) (hnd:(tch++ro++bs).Nodup) (hsub:∀id∈tch++ro++bs,id∈names)
  (hearly:∀id∈tch++ro,∀(j:Nat) g',acc[j]?=some g'→j<i→Kk id g'=true→E j=true) (hlate:∀id∈tch++ro++bs,∀(j:Nat) g',acc[j]?=some g'→i<j→Kk id g'=true→E j=false)
  (hbs:∀id∈bs,Y0 E id acc 0 (Qh Zs id)=none) (hVe:∀e∈Ve,e∈L9 E acc 0++B) (hups:g.ups=(tch++bs).map fun id=>(id,Qh S1.mem id)) (hgd:g.has=true→∃cs,(⟨g.d,cs,g.av⟩:En)∈S1.env∧cs=[]) (hod:∀d,o.dst=some d→d=g.d)
  (hnt:V2 ((tch.filterMap fun id=>Kv id (Y0 Hc id (acc.take i) 0 (Qh Zs id)))++ro.filterMap fun id=>Kv id (Y0 Hc id (acc.take i) 0 (Qh Zs id)))=true)
  (hF:∀e∈L9 E acc 0++B,(∀i∈Jb e.av,i∈pr)∧∀d,o.dst=some d→e.t≠d∧∀c∈e.cs,c.1≠d) (hFm:∀id∈Jc (((names.filter fun j=>!Yj (tch++ro++bs) j).filterMap fun id=>Kv id (Y0 E id acc 0 (Qh Zs id)))++Mb),id∈pr)
  (hstep:∀(X1:Cx) (Q1:Exit→Act→World→Prop),X1.n=X.n→X1.res=[]→X1.pin=none→Ud Y.gl (okN X1) X1.w→Rel X1 β ρ ⟨Ve,(tch.filterMap fun id=>Kv id (Y0 Hc id (acc.take i) 0 (Qh Zs id)))++ro.filterMap fun id=>Kv id (Y0 Hc id (acc.take i) 0 (Qh Zs id))⟩ a w→(∀β' ρ' a' w',agP pr β β' ρ ρ'→Rel X1 β' ρ' ⟨S1.env,S1.mem++(ro.filterMap fun id=>Kv id (Y0 Hc id (acc.take i) 0 (Qh Zs id)))⟩ a' w'→Q1 .normal a' w')→wpList P ops Q1 [o] a w)
  (H:∀β' ρ' a' w',agP pr β β' ρ ρ'→Rel X β' ρ' ⟨L9 (Qh2 E i) acc 0++B,Bn names Zs acc (Qh2 E i)++Mb⟩ a' w'→Q .normal a' w'):wpList P ops Q [o] a w:=by
 have hpart:=Jfg hnd hnn hsub
 have hnow:∀id∈tch++ro,Y0 E id acc 0 (Qh Zs id)=Y0 Hc id (acc.take i) 0 (Qh Zs id):=fun id hm=>Jji hg hi (hearly id hm) (hlate id (List.mem_append_left _ hm))
 have hT:(tch.filterMap fun id=>Kv id (Y0 E id acc 0 (Qh Zs id)))=tch.filterMap fun id=>Kv id (Y0 Hc id (acc.take i) 0 (Qh Zs id)):=(Vg fun id hm=>by rw[hnow id (List.mem_append_left _ hm)])
 have hR:(ro.filterMap fun id=>Kv id (Y0 E id acc 0 (Qh Zs id)))=ro.filterMap fun id=>Kv id (Y0 Hc id (acc.take i) 0 (Qh Zs id)):=(Vg fun id hm=>by rw[hnow id (List.mem_append_right _ hm)])
 have hB0:(bs.filterMap fun id=>Kv id (Y0 E id acc 0 (Qh Zs id)))=[]:=by
  rw[XR]
  intro id hm
  rw[hbs id hm]; rfl
 have hpm:(Bn names Zs acc E++Mb).Perm ((tch.filterMap fun id=>Kv id (Y0 Hc id (acc.take i) 0 (Qh Zs id)))++(ro.filterMap fun id=>Kv id (Y0 Hc id (acc.take i) 0 (Qh Zs id)))++(((names.filter fun j=>!Yj (tch++ro++bs) j).filterMap fun id=>Kv id (Y0 E id acc 0 (Qh Zs id)))++Mb)):=by
  have h1:=hpart.filterMap fun id=>Kv id (Y0 E id acc 0 (Qh Zs id))
  rw[JQ,JQ,JQ,hT,hR,hB0,QH]at h1
  rw[←List.append_assoc]
  exact h1.append_right Mb
 have h2:Rel X β ρ ⟨Ve++(L9 E acc 0++B),_⟩ a w:=Rel.less (Rel.permM h hpm) fun e he=>by
  grind
 refine Jjh hG hr hp h2 hnt hF hFm hstep fun β' ρ' a' w' hag hR1=>H β' ρ' a' w' hag ?_
 have htc:∀id,Kk id g=decide (id∈tch++bs):=fun id=>by
  unfold Kk
  rw[hups,Qbf]
  by_cases hm:id∈tch++bs
  ·rw[if_pos hm]; simp[Eb,hm]
  simp_all [if_neg,Eb]
 have hup:∀id∈tch++bs,Y0 (Qh2 E i) id acc 0 (Qh Zs id)=Qh S1.mem id:=fun id hm=>by
  have hm3:id∈tch++ro++bs:=by
   grind
  rw[Jjj hg hi (hlate id hm3)]
  unfold upC
  rw[hups,Qbf,if_pos hm]
 have hoff:∀id,id∉tch++bs→Y0 (Qh2 E i) id acc 0 (Qh Zs id)=Y0 E id acc 0 (Qh Zs id):=fun id hm=>Jjk hg (by rw[htc]; simpa using hm)
 have hnd2:=List.nodup_append.1 hnd
 have hnd3:=List.nodup_append.1 hnd2.1
 have hndtb:(tch++bs).Nodup:=by
  rw[List.nodup_append]
  grind
 have hpm2:(Bn names Zs acc (Qh2 E i)++Mb).Perm ((Jp S1.mem (tch++bs)).2++(ro.filterMap fun id=>Kv id (Y0 Hc id (acc.take i) 0 (Qh Zs id)))++(((names.filter fun j=>!Yj (tch++ro++bs) j).filterMap fun id=>Kv id (Y0 E id acc 0 (Qh Zs id)))++Mb)):=by
  have h1:=hpart.filterMap fun id=>Kv id (Y0 (Qh2 E i) id acc 0 (Qh Zs id))
  rw[JQ,JQ,JQ]at h1
  have e1:((tch.filterMap fun id=>Kv id (Y0 (Qh2 E i) id acc 0 (Qh Zs id)))++(bs.filterMap fun id=>Kv id (Y0 (Qh2 E i) id acc 0 (Qh Zs id))))=(Jp S1.mem (tch++bs)).2:=by
   rw[Qnt hndtb,←JQ]
   grind [Vg,id]
  have e2:(ro.filterMap fun id=>Kv id (Y0 (Qh2 E i) id acc 0 (Qh Zs id)))=(ro.filterMap fun id=>Kv id (Y0 Hc id (acc.take i) 0 (Qh Zs id))):=by
   rw[←hR]
   refine Vg fun id hm=>by
    rw[hoff id fun hm2=>?_]
    grind
  have e3:((names.filter fun j=>!Yj (tch++ro++bs) j).filterMap fun id=>Kv id (Y0 (Qh2 E i) id acc 0 (Qh Zs id)))=(names.filter fun j=>!Yj (tch++ro++bs) j).filterMap fun id=>Kv id (Y0 E id acc 0 (Qh Zs id)):=by
   refine Vg fun id hm=>by
    rw[hoff id fun hm2=>?_]
    have h3:=(QD.1 hm).2
    grind
  rw[e2,e3]at h1
  rw[←e1,←List.append_assoc]
  refine(h1.append_right Mb).trans ?_
  refine List.Perm.append_right _ (List.Perm.append_right _ ?_)
  rw[List.append_assoc,List.append_assoc]
  exact List.Perm.append_left _ JJ
 have hsp:(S1.mem++(ro.filterMap fun id=>Kv id (Y0 Hc id (acc.take i) 0 (Qh Zs id)))++(((names.filter fun j=>!Yj (tch++ro++bs) j).filterMap fun id=>Kv id (Y0 E id acc 0 (Qh Zs id)))++Mb)).Perm ((Jp S1.mem (tch++bs)).1++((Jp S1.mem (tch++bs)).2++(ro.filterMap fun id=>Kv id (Y0 Hc id (acc.take i) 0 (Qh Zs id)))++(((names.filter fun j=>!Yj (tch++ro++bs) j).filterMap fun id=>Kv id (Y0 E id acc 0 (Qh Zs id)))++Mb))):=by
  have h1:=(Kz (tch++bs) S1.mem).symm.trans JJ
  have h3:=(h1.append_right (ro.filterMap fun id=>Kv id (Y0 Hc id (acc.take i) 0 (Qh Zs id)))).append_right (((names.filter fun j=>!Yj (tch++ro++bs) j).filterMap fun id=>Kv id (Y0 E id acc 0 (Qh Zs id)))++Mb)
  grind
 have hR2:=Rel.permM hR1 hsp
 have hR3:Rel X β' ρ' ⟨S1.env++(L9 E acc 0++B),(Jp S1.mem (tch++bs)).2++(ro.filterMap fun id=>Kv id (Y0 Hc id (acc.take i) 0 (Qh Zs id)))++(((names.filter fun j=>!Yj (tch++ro++bs) j).filterMap fun id=>Kv id (Y0 E id acc 0 (Qh Zs id)))++Mb)⟩ a' w':=Sb.subO hR2 ((List.sublist_append_right _ _).map _)
 refine Rel.less (Rel.permM hR3 hpm2.symm) fun e he=>?_
 rcases QX.1 he with he | he
 ·obtain⟨k,g',q1,q2,q3,rfl⟩:=Qlx he
  rw[QV]at q2
  by_cases hki:k=i
  ·grind
  ·simp only[Qh2]at q2
   rw[show(k==i)=false by simp; omega,ZR]at q2
   exact List.mem_append_right _ (List.mem_append_left _ (Qzy q1 (by rw[QV]; exact q2) q3))
 grind
end
end Gx

/- A region of open order by ordinary steps: the interpreter. -/
namespace Gx
open Go Go.RowKit Gd
set_option linter.unusedVariables false
set_option linter.unusedSimpArgs false
theorem Qw2:∀{acc:List EC} {t:Nat} {v:AV},Qll acc t=some v→∃g∈acc,g.d=t∧g.has=true∧g.av=v
 | [],t,v,h=>by simp[Qll]at h
 | g::l,t,v,h=>by
  simp only[Qll]at h
  cases hb:(Nat.beq g.d t&&g.has)with
  | true =>
   rw[hb]at h
   simp_all
  | false =>
   rw[hb]at h
   obtain⟨g',h1,h2⟩:=Qw2 h
   grind
theorem Qbg{l0:List Oper}{ds:List Nat}{i:Nat}{acc:List EC}{B:List En}:∀{ts:List Nat} {e:En},e∈Qsb l0 ds i acc B ts →
  (e.cs=[]∧Qll acc e.t=some e.av∧Ja4 l0 i (ds.idxOf e.t)=true)∨e∈B
 | [],e,h=>by
  grind [Qlt,Qsb]
 | t::ts,e,h=>by
  simp only[Qsb]at h
  split at h
  ·rename_i v hv
   cases hp:Ja4 l0 i (ds.idxOf t)with
   | true =>
    rw[hp]at h
    rcases QJ.1 h with rfl | h
    ·grind
    ·exact Qbg h
   | false=>rw[hp]at h; exact Qbg h
  ·cases hb:Qos ds t with
   | true =>
    rw[hb]at h
    simp only[cond_true]at h
    split at h
    ·rename_i t' v he
     obtain⟨h1,h2⟩:=Zt he
     rcases QJ.1 h with rfl | h
     ·exact .inr h1
     ·exact Qbg h
    ·exact Qbg h
   | false=>rw[hb]at h; exact Qbg h
theorem Ix{l m:List Nat}(h:Qd6 l m=true){x:Nat}(h1:x∈l)(h2:x∈m):False:=by
 have:=QP.1 h x h1
 rw[Qlu h2]at this; cases this
section
variable {R:Type} (Y:TX) (K:List Con) (n:Nat) (l0:List Oper) (ds:List Nat) (Zs:List (Nat×Ob)) (B:List En) (prA:List Nat)
def TrC:List HD→List Oper→Nat→List EC→List EC→Prop
 | [],[],_,_,[]=>True
 | hc::hs,o::l,i,acc,g::acc2=>(∃S1,Va (R:=XS) Y K n l0 hc.h [o] (Qsc l0 ds Zs B prA hc o i acc) some=some S1∧Qjx n ds Zs hc o i acc S1=some g)∧TrC hs l (i+1) (acc++[g]) acc2
 | _,_,_,_,_=>False
end
section
variable {R:Type} {r:R} {Y:TX} {K:List Con} {n:Nat} {l0:List Oper} {ds:List Nat} {Zs:List (Nat×Ob)} {B:List En} {prA:List Nat}
theorem Qs5{acc:List EC}{t:Nat}{b:Bool}(h:Qll acc t=some (.d .bool b)):Q3k acc t b=acc:=by
 induction acc with
 | nil=>rfl
 | cons g l ih =>
  simp only[Qll]at h
  simp only[Q3k]
  cases hb:(Nat.beq g.d t&&g.has)with
  | true =>
   rw[hb]at h
   simp only[cond_true,Option.some.injEq]at h
   obtain⟨gd,gv,gh,gu⟩:=g
   grind
  | false =>
   rw[hb]at h
   grind
theorem Qq4:∀{ht:HT} {l:List Oper} {i:Nat} {hs:List HD} {acc:List EC} {k:Hn→List HD→List EC→Option R},Qsd Y K n l0 ds Zs B prA ht l i hs acc k=some r →
  ∃h hs2 acc2,k h (hs++hs2) (acc++acc2)=some r∧TrC Y K n l0 ds Zs B prA hs2 l i acc acc2∧∀x∈Xo hs2,x∈Do ht
 | .tl h,[],i,hs,acc,k,hr=>⟨h,[],[],by grind [Qsd],trivial,by simp[Xo]⟩
 | .tl h,_::_,i,hs,acc,k,hr=>by simp[Qsd]at hr
 | .op hc t,[],i,hs,acc,k,hr=>by simp[Qsd]at hr
 | .op hc t,o::l,i,hs,acc,k,hr=>by
  simp only[Qsd]at hr
  obtain⟨S1,h1,h2⟩:=Qsi hr
  split at h1
  ·rename_i g hg
   obtain⟨h,hs2,acc2,h3,h4,h5⟩:=Qq4 h1
   refine⟨h,hc::hs2,g::acc2,by simpa using h3,⟨⟨S1,h2,hg⟩,h4⟩,fun x hx=>?_⟩
   rcases QX.1 hx with hx | hx
   ·exact List.mem_append_left _ hx
   ·exact List.mem_append_right _ (h5 x hx)
  ·cases h1
 | .so t a b,l,i,hs,acc,k,hr=>by
  simp only[Qsd]at hr
  split at hr
  ·rename_i v hv
   cases v with
   | true =>
    rw[if_pos rfl,Qs5 hv]at hr
    obtain⟨h,hs2,acc2,h3,h4,h5⟩:=Qq4 hr
    exact⟨h,hs2,acc2,h3,h4,fun x hx=>List.mem_append_left _ (h5 x hx)⟩
   | false =>
    rw[if_neg (by simp),Qs5 hv]at hr
    obtain⟨h,hs2,acc2,h3,h4,h5⟩:=Qq4 hr
    exact⟨h,hs2,acc2,h3,h4,fun x hx=>List.mem_append_right _ (h5 x hx)⟩
  ·cases hr
theorem TrC.get:∀{hs:List HD} {l:List Oper} {i:Nat} {acc acc2:List EC},TrC Y K n l0 ds Zs B prA hs l i acc acc2→acc2.length=l.length∧hs.length=l.length∧∀(j:Nat) o,l[j]?=some o→∃g hc S1,acc2[j]?=some g∧hs[j]?=some hc ∧
  Va (R:=XS) Y K n l0 hc.h [o] (Qsc l0 ds Zs B prA hc o (i+j) (acc++acc2.take j)) some=some S1∧Qjx n ds Zs hc o (i+j) (acc++acc2.take j) S1=some g
 | [],[],i,acc,[],_=>⟨rfl,rfl,by simp⟩
 | [],[],i,acc,_::_,h=>h.elim
 | [],_::_,i,acc,_,h=>by simp[TrC]at h
 | _::_,[],i,acc,_,h=>by simp[TrC]at h
 | _::_,_::_,i,acc,[],h=>by simp[TrC]at h
 | hc::hs,o::l,i,acc,g::acc2,h=>by
  obtain⟨⟨S1,q1,q2⟩,h0⟩:=h
  obtain⟨h2,h2',h3⟩:=TrC.get h0
  refine⟨by simp[h2],by simp[h2'],fun j o' ho=>?_⟩
  cases j with
  | zero =>
   grind
  | succ j =>
   grind
end
end Gx

/- A region of open order by ordinary steps. -/
namespace Gx
open Go Go.RowKit Gd
set_option linter.unusedVariables false
set_option linter.unusedSimpArgs false
theorem Oh{n:Nat}{ds:List Nat}{Zs:List (Nat×Ob)}{hc:HD}{o:Oper}{i:Nat}{acc:List EC}{S1:XS}{g:EC}(h:Qjx n ds Zs hc o i acc S1=some g) :
  V2 (Qi0 hc.tch Zs acc++Qi0 hc.ro Zs acc)=true∧Hh hc.nm (Jc S1.mem)=true∧(g.ups=(hc.tch++hc.bs).map fun id=>(id,Qh S1.mem id))∧ds.getD i 0=g.d∧Hh hc.nm (Jb g.av)=true∧(∀d,o.dst=some d→d=g.d∧d<n)∧(g.has=true→∃cs,(⟨g.d,cs,g.av⟩:En)∈S1.env∧cs=[])∧(o.dst=none→n≤1000000000→n≤g.d):=by
 unfold Qjx at h
 obtain⟨hb,h⟩:=bvT h
 simp only[QQ]at hb
 split at h
 ·rename_i d hd
  split at h
  ·rename_i t av hl
   obtain⟨hb2,h⟩:=bvT h
   simp only[QQ]at hb2
   simp only[Option.some.injEq]at h
   subst h
   obtain⟨hm,ht⟩:=Zt hl
   simp_all
  ·cases h
 ·rename_i hd
  obtain⟨hb2,h⟩:=bvT h
  simp only[Option.some.injEq]at h
  subst h
  exact⟨hb.1,hb.2,rfl,Nat.eq_of_beq_eq_true hb2,(by trivial),(fun d' hd'=>by rw[hd]at hd'; cases hd'),(fun h=>by cases h),fun _ hn=>by grind⟩
theorem Qfr:∀{l m:List (Nat×Ob)} {i:Nat},i∈Jc (l++m)→i∈Jc l∨i∈Jc m
 | [],m,i,h=>.inr h
 | (k,ob)::l,m,i,h=>by
  have key:∀{xs:List Nat},i∈xs++Jc (l++m)→i∈xs++Jc l∨i∈Jc m:=fun {xs} h=>by
   rcases QX.1 h with h | h
   ·grind
   ·exact(Qfr h).imp (List.mem_append_right _) id
  cases ob with
  | var t c=>grind [Jb,Jc,id]
  | mapC a b xs hole =>
   cases hole with
   | none=>exact key (xs:=[k]) (by simpa[Jc]using h) |>.imp (by simp[Jc]) id
   | some q=>exact key (xs:=[k,q.2]) (by grind [Jc]) |>.imp (by simp[Jc]) id
  | mapE k1 v1 xs1 key1 j=>exact key (xs:=[k,j]) (by grind [Jc]) |>.imp (by simp[Jc]) id
  | _=>exact key (xs:=[k]) (by simpa[Jc]using h) |>.imp (by simp[Jc]) id
theorem Qs6{f:Nat→Option Ob}{i:Nat}:∀{ids:List Nat},i∈Jc (ids.filterMap fun id=>Kv id (f id))→∃id∈ids,∃ob,f id=some ob∧i∈Jc [(id,ob)]
 | [],h=>by cases h
 | id::ids,h=>by
  simp only[JA]at h
  cases hf:f id with
  | none =>
   rw[hf]at h
   obtain⟨id',h1,ob,h2,h3⟩:=Qs6 (ids:=ids) h
   grind
  | some ob =>
   rw[hf]at h
   rcases Qfr (l:=[(id,ob)]) h with h | h
   ·grind
   ·obtain⟨id',h1,ob',h2,h3⟩:=Qs6 (ids:=ids) h
    grind
theorem Qw3{M:List (Nat×Ob)}{id i:Nat}{ob:Ob}:Qh M id=some ob→i∈Jc [(id,ob)]→i∈Jc M:=by
 intro h hi
 obtain⟨l1,l2,e,w1,w2⟩:=Jn h
 rw[e]
 clear e h w1 w2
 induction l1 with
 | nil =>
  have key:∀{xs ys:List Nat},i∈xs++[]→i∈xs++ys:=fun h=>List.mem_append_left _ (by simpa using h)
  cases ob with
  | var t c=>have:=key (xs:=id::Jb c) (ys:=Jc l2) (by grind [Jc]); grind [Jc]
  | mapC a b xs hole =>
   cases hole with
   | none=>have:=key (xs:=[id]) (ys:=Jc l2) (by simp_all [Jc]); simp_all [Jc]
   | some q=>have:=key (xs:=[id,q.2]) (ys:=Jc l2) (by grind [Jc]); grind [Jc]
  | mapE k1 v1 xs1 key1 j=>have:=key (xs:=[id,j]) (ys:=Jc l2) (by grind [Jc]); grind [Jc]
  | _=>have:=key (xs:=[id]) (ys:=Jc l2) (by simpa[Jc]using hi); grind [Jc]
 | cons q l ih =>
  obtain⟨k,x⟩:=q
  cases x with
  | var t c=>grind [Jc,List.mem_append_right]
  | mapC a b xs hole =>
   cases hole with
   | none=>simp_all [QA,Jc]
   | some q=>grind [Jc]
  | mapE k1 v1 xs1 key1 j=>grind [Jc]
  | _=>grind [Jc]
theorem Q4c{E:Nat→Bool}{id:Nat}{ob:Ob}:∀{l:List EC} {j:Nat} {c:Option Ob},Y0 E id l j c=some ob→c=some ob∨∃(k:Nat) (g:EC),l[k]?=some g∧E (j+k)=true∧Qo2 g.ups id=some (some ob)
 | [],j,c,h=>.inl h
 | g0::l,j,c,h=>by
  simp only[Y0]at h
  rcases Q4c h with h1 | ⟨k,g,h1,h2,h3⟩
  ·cases hE:E j with
   | false=>rw[hE]at h1; exact .inl h1
   | true =>
    rw[hE]at h1
    simp only[cond_true,upC]at h1
    cases hl:Qo2 g0.ups id with
    | none=>rw[hl]at h1; exact .inl h1
    | some x=>rw[hl]at h1; simp only at h1; subst h1; exact .inr ⟨0,g0,rfl,hE,hl⟩
  ·exact .inr ⟨k+1,g,by simpa using h1,by rw[show j+(k+1)=j+1+k by omega]; exact h2,h3⟩
end Gx

/- A region of open order by ordinary steps: sound. -/
namespace Gx
open Go Go.RowKit Gd
set_option linter.unusedVariables false
set_option linter.unusedSimpArgs false
theorem Qw4:∀{hs:List HD} {i:Nat},(∃hc∈hs,i∈hc.bs)→i∈Xo hs
 | [],i,⟨_,h,_⟩=>by cases h
 | h::l,i,⟨hc,hm,hi⟩=>by
  rcases QJ.1 hm with rfl | hm
  ·exact List.mem_append_left _ hi
  ·exact List.mem_append_right _ (Qw4 ⟨hc,hm,hi⟩)
theorem Q85{l0:List Oper}{hs:List HD}(h:Juz l0 hs=true){i j:Nat}{hi hj:HD}(h1:hs[i]?=some hi)(h2:hs[j]?=some hj)(hji:j<i):Qlm l0 i j hi hj=true:=by
 have hil:=(List.getElem?_eq_some_iff.1 h1).1
 have:=QP.1 (QP.1 h i (JX.2 hil)) j (JX.2 hji)
 rw[h1,h2]at this
 exact this
theorem Ju9{l0:List Oper}{hs:List HD}(h:nmB l0 hs=true){i j:Nat}{hi hj:HD}(h1:hs[i]?=some hi)(h2:hs[j]?=some hj)(hji:i≠j):Qd6 hi.bs hj.nm=true∨Bg l0 l0.length j i=true:=by
 have hil:=(List.getElem?_eq_some_iff.1 h1).1
 have hjl:=(List.getElem?_eq_some_iff.1 h2).1
 have:=QP.1 (QP.1 h i (JX.2 hil)) j (JX.2 hjl)
 rw[h1,h2]at this
 simp_all
theorem Qw5{m:List (Nat×Ob)}{i:Nat}:∀{l:List (Nat×Ob)},i∈Jc l→i∈Jc (l++m)
 | [],h=>by cases h
 | (k,x)::l,h=>by
  have key:∀{xs:List Nat},i∈xs++Jc l→i∈xs++Jc (l++m):=fun {xs} h=>by
   rcases QX.1 h with h | h
   ·grind
   ·exact List.mem_append_right _ (Qw5 h)
  cases x with
  | var t c=>have:=key (xs:=k::Jb c) (by grind [Jc]); grind [Jc]
  | mapC a b xs hole =>
   cases hole with
   | none=>have:=key (xs:=[k]) (by simpa[Jc]using h); simp_all [Jc]
   | some q=>have:=key (xs:=[k,q.2]) (by grind [Jc]); grind [Jc]
  | mapE k1 v1 xs1 key1 j=>have:=key (xs:=[k,j]) (by grind [Jc]); grind [Jc]
  | _=>have:=key (xs:=[k]) (by simpa[Jc]using h); grind [Jc]
theorem Qs7{m:List (Nat×Ob)}{i:Nat}(h:i∈Jc m):∀{l:List (Nat×Ob)},i∈Jc (l++m)
 | []=>h
 | (k,x)::l=>by
  have ih:=Qs7 h (l:=l)
  cases x with
  | var t c=>grind [Jc,List.mem_append_right]
  | mapC a b xs hole =>
   cases hole with
   | none=>simp_all [QA,Jc]
   | some q=>grind [Jc]
  | mapE k1 v1 xs1 key1 j=>grind [Jc]
  | _=>grind [Jc]
theorem Qs8{E E':Nat→Bool}:∀{acc:List EC} {j:Nat},(∀k,k<acc.length→E (j+k)=E' (j+k))→L9 E acc j=L9 E' acc j
 | [],_,_=>rfl
 | g::l,j,h=>by
  have h0:=h 0 (by simp)
  rw[JP]at h0
  have ih:L9 E l (j+1)=L9 E' l (j+1):=Qs8 fun k hk=>by
   have:=h (k+1) (by grind)
   rwa[show j+(k+1)=j+1+k by omega]at this
  grind [L9]
theorem Qw6:∀{acc:List EC} {j:Nat},L9 (fun _=>false) acc j=[]
 | [],_=>rfl
 | g::l,j=>by simp only[L9,Bool.false_and,cond_false]; exact Qw6
theorem Jfh{Zs:List (Nat×Ob)}{bs:List Nat}{acc:List EC}(hN:(V0 Zs++bs).Nodup):Bn (V0 Zs++bs) Zs acc (fun _=>false)=Zs:=by
 unfold Bn
 have h0:∀id c,Y0 (fun _=>false) id acc 0 c=c:=fun id c=>Og fun _ _ _ _=>rfl
 obtain⟨n1,n2,n3⟩:=List.nodup_append.1 hN
 rw[JQ]
 have e2:(bs.filterMap fun id=>Kv id (Y0 (fun _=>false) id acc 0 (Qh Zs id)))=[]:=by
  rw[XR]
  intro d hd
  rw[h0]
  cases hl:Qh Zs d with
  | none=>rfl
  | some ob=>exact absurd rfl (n3 d (Qfp (by rw[hl]; rfl)) d hd)
 rw[e2,QH]
 unfold V0
 rw[List.filterMap_map]
 simp_all [Vg,ZO,Function.comp,Qjz,Kv]
section
variable {P:Program} {Y:TX} {X:Cx} {K:List Con} {n:Nat} {l0:List Oper} {ds:List Nat} {Zs Mb:List (Nat×Ob)} {B:List En} {prA prB:List Nat} {R:Type} {r:R} {β:Nat→Nat} {ρ:Nat→Value} {a:Act} {w:World}
theorem Q86(hT:Q0 P Y.T)(hmix:P.follows .mixedOrders=true)(hK:KsX P Y X K)(hX:X.n=n)(hr:X.res=[])(hp:X.pin=none){ht:HT}{p:Nat}(h:Rel X β ρ ⟨B,Zs++Mb⟩ a w)
  (hBt:∀e∈B,∀d∈ds,d<n→e.t≠d∧∀c∈e.cs,c.1≠d) (hBi:∀e∈B,∀i∈Jb e.av,i∈prB) (hMi:∀i∈Jc (Zs++Mb),i∈prB)
  (hb:Jbj l0 p ds=true) {k:Hn→List HD→List EC→Option R} (hs:Qsd Y K n l0 ds Zs B prA ht (l0.take p) 0 [] [] k=some r)
  (hch:∀h hs0 acc,k h hs0 acc=some r→Jn6 l0 (V0 Zs) prB prA hs0=true) (hpA:∀i∈prB,i∈prA) {id:Nat} {Q:Exit→Act→World→Prop}
  (H:∀β' ρ' a' w' h hs0 acc,k h hs0 acc=some r→(∀(x:Nat),(∀hc∈hs0,x∉hc.wr)→∀g∈acc,Kk x g=false)→(∀x∈Xo hs0,x∈Do ht)→agP prB β β' ρ ρ'→Rel X β' ρ' ⟨L9 Hc acc 0++B,Bn (V0 Zs++Xo hs0) Zs acc Hc++Mb⟩ a' w'→wpList P ⟨l0⟩ Q (l0.drop p) a' w'):(Code.region id ⟨l0⟩ true).wp P Q a w:=by
 unfold Jbj at hb
 simp only[QQ]at hb
 obtain⟨⟨⟨⟨hple,hlen⟩,hback⟩,hfin⟩,hndB⟩:=hb
 have hnd:=Qv7 hndB
 have hpl:=QK hple
 have hdl:=Nat.eq_of_beq_eq_true hlen
 obtain⟨hn,hs0,acc,hk,htr,hbT⟩:=Qq4 hs
 simp only[QF]at hk
 have hchk:=hch _ _ _ hk
 unfold Jn6 at hchk
 simp only[QQ]at hchk
 obtain⟨⟨⟨⟨⟨hcf,hnm⟩,hNb⟩,hapB⟩,hNAb⟩,hall0⟩:=hchk
 have hN:=Qbe hNb
 have hNA:∀i∈V0 Zs++Xo hs0,i∈prA:=fun i hi=>Ay hNAb i hi
 have hprB:∀i∈prB,i∈prA∧i∉Xo hs0:=fun i hi=>⟨hpA i hi,fun h2=>Ix hapB hi h2⟩
 have hal0:∀hc∈hs0,Ow hc.al=true∧Hh (V0 Zs++Xo hs0) hc.al=true∧Hh prA hc.nm=true:=fun hc hm=>by
  have:=QP.1 hall0 hc hm
  grind
 have hNm:∀hc∈hs0,∀i∈hc.nm,i∈prA:=fun hc hm i hi=>Ay (hal0 hc hm).2.2 i hi
 have hal:∀hc∈hs0,(hc.tch++hc.ro++hc.bs).Nodup∧∀i∈hc.tch++hc.ro++hc.bs,i∈V0 Zs++Xo hs0:=fun hc hm=>⟨Qbe (hal0 hc hm).1,fun i hi=>Ay (hal0 hc hm).2.1 i hi⟩
 obtain⟨hal1,hal2,hall⟩:=htr.get
 have hap:acc.length=p:=by rw[hal1,List.length_take]; omega
 simp only[QF,QV]at hall
 have hget:∀(i:Nat) o,i<p→l0[i]?=some o→∃g hc S1,acc[i]?=some g∧hs0[i]?=some hc∧Va (R:=XS) Y K n l0 hc.h [o] (Qsc l0 ds Zs B prA hc o i (acc.take i)) some=some S1∧Qjx n ds Zs hc o i (acc.take i) S1=some g:=fun i o hi ho=>hall i o (by rw[JZ,if_pos hi]; exact ho)
 have hof:∀(j:Nat) g,acc[j]?=some g→j<p∧∃o hc S1,l0[j]?=some o∧hs0[j]?=some hc∧Qjx n ds Zs hc o j (acc.take j) S1=some g:=fun j g hg=>by
  have hj:j<p:=by have:=(List.getElem?_eq_some_iff.1 hg).1; omega
  obtain⟨g',hc,S1,q1,q2,_,q4⟩:=hget j l0[j] hj (List.getElem?_eq_getElem (by omega))
  rw[hg]at q1; grind
 have htch:∀(j:Nat) g hc x,acc[j]?=some g→hs0[j]?=some hc→Kk x g=true→x∈hc.wr:=fun j g hc x hg hh ht=>by
  obtain⟨_,o,hc',S1,_,q2,q3⟩:=hof j g hg
  rw[hh]at q2; injection q2 with q2; subst q2
  unfold Kk at ht
  rw[(Oh q3).2.2.1,Qbf]at ht
  by_cases hm:x∈hc.tch++hc.bs
  ·exact hm
  simp_all [if_neg,Eb]
 have hdsj:∀(j:Nat) g,acc[j]?=some g→ds[j]?=some g.d:=fun j g hg=>by
  obtain⟨hj,o,hc,S1,_,_,q3⟩:=hof j g hg
  exact Jfc (by omega) (Oh q3).2.2.2.1
 have hno:∀(x:Nat),(∀hc∈hs0,x∉hc.wr)→∀g∈acc,Kk x g=false:=fun x hx g hg=>by
  grind [List.getElem?_of_mem,Kk,absurd,List.mem_of_getElem?]
 refine Q83 (fun E a w=>∃β' ρ',agP prB β β' ρ ρ'∧Rel X β' ρ' ⟨L9 E acc 0++B,Bn (V0 Zs++Xo hs0) Zs acc E++Mb⟩ a w) hmix p (fun E E' a w hE ⟨β',ρ',q1,q2⟩=>⟨β',ρ',q1,?_⟩) hple hback hfin ⟨β,ρ,agP.refl _ _ _,?_⟩ (fun E i o a w Q' hip ho hcl hEi hpre ⟨β1,ρ1,hag,hR⟩ hQ=>?_) fun a' w' ⟨β',ρ',q1,q2⟩=>H β' ρ' a' w' hn hs0 acc hk hno hbT q1 q2
 ·have e1:L9 E acc 0=L9 E' acc 0:=Qs8 fun k hk=>by rw[QV]; grind
  have e2:Bn (V0 Zs++Xo hs0) Zs acc E=Bn (V0 Zs++Xo hs0) Zs acc E':=Vg fun id _=>by
   rw[O5 (E:=E) (E':=E') fun k e hk _=>by rw[QV]; grind]
  rw[e1,e2]at q2
  exact q2
 ·rw[Qw6,Jfh hN]
  exact Sb.below h ((Below.refl _ _).drew)
 ·obtain⟨g,hc,S1,hg,hhc,hrun,hst⟩:=hget i o hip ho
  obtain⟨t1,t2,t3,t4,t5,t6,t7,t8⟩:=Oh hst
  obtain⟨al1,al2⟩:=hal hc (List.mem_of_getElem? hhc)
  have hlateB:∀j,Bg l0 l0.length j i=true→E j=false:=fun j hbj=>by
   cases hE:E j with
   | false=>rfl
   | true =>
    have:E i=true:=Qaz hcl l0.length j i hbj fun o' ho' e he hb'=>hcl j o' hE ho' e he hb'
    rw[hEi]at this; cases this
  have hearB:∀j,Bg l0 l0.length i j=true→E j=true:=fun j hbj=>Qaz hcl l0.length i j hbj fun o' ho' e he hb'=>by rw[ho]at ho'; grind
  have hlate:∀id∈hc.tch++hc.ro++hc.bs,∀(j:Nat) g',acc[j]?=some g'→i<j→Kk id g'=true→E j=false:=fun id hm j g' hj hij ht=>by
   obtain⟨hjp,oj,hcj,S1j,p1,p2,p3⟩:=hof j g' hj
   have hw:=htch j g' hcj id hj p2 ht
   have hse:=Q85 hcf p2 hhc hij
   unfold Qlm at hse
   simp only[QQ,JL]at hse
   rcases hse.1 with⟨s1,s2⟩ | s1
   ·exfalso
    rcases QX.1 hm with hm | hm
    ·rcases QX.1 hm with hm | hm
     ·exact Ix s1 (List.mem_append_left _ hm:id∈hc.wr) (by
       rcases QX.1 hw with q | q
       ·exact List.mem_append_left _ (List.mem_append_left _ q)
       ·exact List.mem_append_right _ q)
     grind [Ix]
    ·exact Ix s1 (List.mem_append_right _ hm:id∈hc.wr) (by
       rcases QX.1 hw with q | q
       ·exact List.mem_append_left _ (List.mem_append_left _ q)
       ·exact List.mem_append_right _ q)
   grind
  have hearly:∀id∈hc.tch++hc.ro,∀(j:Nat) g',acc[j]?=some g'→j<i→Kk id g'=true→E j=true:=fun id hm j g' hj hij ht=>by
   obtain⟨hjp,oj,hcj,S1j,p1,p2,p3⟩:=hof j g' hj
   have hw:=htch j g' hcj id hj p2 ht
   have hse:=Q85 hcf hhc p2 hij
   unfold Qlm at hse
   simp only[QQ,JL]at hse
   rcases hse.1 with⟨s1,s2⟩ | s1
   ·exact(Ix s1 hw (List.mem_append_left _ hm)).elim
   grind
  have hbsA:∀id∈hc.bs,id∈Xo hs0:=fun id hm=>Qw4 ⟨hc,List.mem_of_getElem? hhc,hm⟩
  have hbs:∀id∈hc.bs,Y0 E id acc 0 (Qh Zs id)=none:=fun id hm=>by
   have hz:Qh Zs id=none:=by
    cases hl:Qh Zs id with
    | none=>rfl
    | some ob=>exact absurd rfl ((List.nodup_append.1 hN).2.2 id (Qfp (by rw[hl]; rfl)) id (hbsA id hm))
   rw[hz]
   refine Og fun j g' hj ht=>?_
   rw[QV]
   rcases Nat.lt_trichotomy j i with hji | hji | hji
   ·obtain⟨hjp,oj,hcj,S1j,p1,p2,p3⟩:=hof j g' hj
    have hse:=Q85 hcf hhc p2 hji
    unfold Qlm at hse
    simp only[QQ]at hse
    grind [Ix,id]
   ·rw[hji]; exact hEi
   grind
  have hprs:∀x∈prB,x∈Qln prA hc.bs:=fun x hx=>by
   obtain⟨q1,q2⟩:=hprB x hx
   refine QD.2 ⟨q1,?_⟩
   grind [Yj,absurd,Qls]
  have hnmj:∀(j:Nat) g',acc[j]?=some g'→E j=true→∀hcj,hs0[j]?=some hcj→∀x∈hcj.nm,x∈Qln prA hc.bs:=fun j g' hj hE hcj p2 x hx=>by
   refine QD.2 ⟨hNm hcj (List.mem_of_getElem? p2) x hx,?_⟩
   cases hm:Yj hc.bs x with
   | false=>rfl
   | true =>
    have hij:i≠j:=fun e=>by grind
    rcases Ju9 hnm hhc p2 hij with q | q
    ·grind [Ix,Qls]
    grind
  refine Jjl hK.2 hr hp (S1:=S1) (tch:=hc.tch) (ro:=hc.ro) (bs:=hc.bs) (pr:=Qln prA hc.bs) (Ve:=Qsb l0 ds i (acc.take i) B (Q8r o++gTs l0 o)) hR hg hEi hN al1 al2 hearly hlate hbs (fun e he=>?_) t3 t7 (fun d hd=>(t6 d hd).1) t1 (fun e he=>?_) (fun x hx=>?_) (fun X1 Q1 x1 x2 x3 x4 x5 x6=>?_) fun β' ρ' a' w' y1 y2=>hQ a' w' ⟨β',ρ',agP.trans hag fun x hx=>y1 x (hprs x hx),y2⟩
  ·rcases Qbg he with⟨v1,v2,v3⟩ | v1
   ·obtain⟨g',m1,m2,m3,m4⟩:=Qw2 v2
    obtain⟨j,hj⟩:=List.getElem?_of_mem m1
    rw[JZ]at hj
    split at hj
    ·rename_i hji
     have hd':=hdsj j g' hj
     have hix:ds.idxOf e.t=j:=by
      have hjl:=(List.getElem?_eq_some_iff.1 hd').1
      have:=hnd.idxOf_getElem j hjl
      rw[(List.getElem?_eq_some_iff.1 hd').2,m2]at this
      exact this
     rw[hix]at v3
     have hEj:E j=true:=by
      simp only[Ja4,ho]at v3
      obtain⟨e',he',hb'⟩:=List.any_eq_true.1 v3
      simp only[QQ]at hb'
      rw[←Nat.eq_of_beq_eq_true hb'.2]
      grind
     refine List.mem_append_left _ ?_
     have:=Qzy (E:=E) (acc:=acc) (j:=0) (k:=j) hj (by rw[QV]; exact hEj) m3
     obtain⟨et,ecs,eav⟩:=e
     grind
    ·cases hj
   grind
  ·rcases QX.1 he with he | he
   ·obtain⟨j,g',q1,q2,q3,rfl⟩:=Qlx he
    rw[QV]at q2
    obtain⟨hjp,oj,hcj,S1j,p1,p2,p3⟩:=hof j g' q1
    refine⟨fun x hx=>hnmj j g' q1 q2 hcj p2 x (Ay (Oh p3).2.2.2.2.1 x hx),fun d hd=>⟨fun e=>?_,by simp⟩⟩
    have e1:=(t6 d hd).1
    have d1:=hdsj j g' q1
    have d2:=hdsj i g hg
    have hij:j=i:=by
     obtain⟨b1,c1⟩:=List.getElem?_eq_some_iff.1 d1
     obtain⟨b2,c2⟩:=List.getElem?_eq_some_iff.1 d2
     have a1:=hnd.idxOf_getElem j b1
     have a2:=hnd.idxOf_getElem i b2
     rw[show ds[j]=ds[i]from c1.trans (e.trans (e1.trans c2.symm))]at a1
     grind
    rw[hij,hEi]at q2; cases q2
   grind
  ·rcases Qfr hx with hx | hx
   ·obtain⟨id,h1,ob,h2,h3⟩:=Qs6 hx
    rcases Q4c h2 with h6 | ⟨j,g',q1,q2,q3⟩
    ·exact hprs x (hMi x (Qw5 (Qw3 h6 h3)))
    ·rw[QV]at q2
     obtain⟨hjp,oj,hcj,S1j,p1,p2,p3⟩:=hof j g' q1
     refine hnmj j g' q1 q2 hcj p2 x (Ay (Oh p3).2.1 x ?_)
     rw[(Oh p3).2.2.1,Qbf]at q3
     split at q3
     ·exact Qw3 (Option.some.inj q3) h3
     ·cases q3
   grind [Qs7]
  ·have hflat:(Qsc l0 ds Zs B prA hc o i (acc.take i)).flat=⟨Qsb l0 ds i (acc.take i) B (Q8r o++gTs l0 o),Qi0 hc.tch Zs (acc.take i)++Qi0 hc.ro Zs (acc.take i)⟩:=by
    simp only[XS.flat,Qsc,QH]
   have:=Vq hT (X:=X1) ⟨hK.1,x4⟩ (x1.trans hX) x2 (Q:=Q1) hc.h (l:=[o]) (rest:=[]) (S:=Qsc l0 ds Zs B prA hc o i (acc.take i)) (a:=a) (w:=w) (by rw[hflat]; exact x5) hrun fun β' ρ' S' a' w' k1 k2 k3=>by
    simp only[Option.some.injEq]at k1
    subst k1
    have kf:S'.fix=[]:=k2.fix
    have km:S'.fixM=Qi0 hc.ro Zs (acc.take i):=k2.fixM
    refine x6 β' ρ' a' w' k2.ag ?_
    have e:S'.flat=⟨S'.env,S'.mem++Qi0 hc.ro Zs (acc.take i)⟩:=by simp only[XS.flat,kf,km,QH]
    rw[e]at k3
    exact k3
   simpa using this
end
end Gx

/- A region of open order by ordinary steps, as the interpreter walks it. -/
namespace Gx
open Go Go.RowKit Gd
set_option linter.unusedVariables false
set_option linter.unusedSimpArgs false
theorem Qfs{M:List (Nat×Ob)}:∀{B:List En} {e:En},e∈Jer M B→∃e0∈B,e=⟨e0.t,e0.cs,To M e0.av⟩
 | [],e,h=>by cases h
 | e0::l,e,h=>by
  simp only[Jer]at h
  cases hb:Qzl M (Qwg e0.av)with
  | true =>
   rw[hb]at h
   rcases QJ.1 h with rfl | h
   ·grind
   ·obtain⟨e1,h1,h2⟩:=Qfs h
    grind
  | false =>
   rw[hb]at h
   obtain⟨e1,h1,h2⟩:=Qfs h
   grind
theorem Jp0{α:Type}(a b c d:List α):((a++b)++(c++d)).Perm ((a++c)++(b++d)):=by
 rw[List.append_assoc,List.append_assoc]
 refine List.Perm.append_left a ?_
 rw[←List.append_assoc,←List.append_assoc]
 exact List.perm_append_comm.append_right d
theorem Qw7{E:Nat→Bool}{id:Nat}:∀{l:List EC} {j:Nat} {c:Option Ob},(∀g∈l,Kk id g=false)→Y0 E id l j c=c
 | [],j,c,_=>rfl
 | g::l,j,c,h=>by
  simp only[Y0]
  rw[Q84 (h g (.head _))]
  rw[show(bif E j then c else c)=c by cases E j<;>rfl]
  exact Qw7 fun g' hg=>h g' (.tail _ hg)
theorem Qft{l m:List Nat}{Zs:List (Nat×Ob)}{acc:List EC}{E:Nat→Bool}:Bn (l++m) Zs acc E=Bn l Zs acc E++Bn m Zs acc E:=JQ
theorem Qzz{l m:List (Nat×Ob)}:V0 (l++m)=V0 l++V0 m:=QC
section
variable {P:Program} {Y:TX} {X:Cx} {K:List Con} {n:Nat} {l0:List Oper} {ds:List Nat} {R:Type} {r:R} {β:Nat→Nat} {ρ:Nat→Value} {a:Act} {w:World}
theorem Jog{B:List En}{M Z:List (Nat×Ob)}(h:Rel X β ρ ⟨B,M++Z⟩ a w):Rel X β ρ ⟨Jer M B++B,M++Z⟩ a w:=by
 refine Rel.ofSb h rfl fun e he=>?_
 rcases QX.1 he with he | he
 ·obtain⟨e0,h0,rfl⟩:=Qfs he
  obtain⟨h1,h2⟩:=h.en h0
  refine⟨fun hc=>?_,h2⟩
  obtain⟨cs,q1,q2⟩:=h1 hc
  exact⟨cs,by rw[q1,Q37],Qcv (fun id o ho=>h.mm id o (Qy ho)) q2⟩
 ·exact h.en he
theorem Q87(hT:Q0 P Y.T)(hmix:P.follows .mixedOrders=true)(hK:KsX P Y X K)(hX:X.n=n)(hr:X.res=[])(hp:X.pin=none){S:XS}(h:Rel X β ρ S.flat a w){p:Nat}{zs zf:List Nat}{ht:HT}
  (hb:Jbj l0 p ds=true) (hfx:(ds.all fun d=>Rr d S.fix)=true) {k:Hn→XS→Option R}
  (hs:dcI Y K n l0 p ds (Jp S.mem zs).2 (Jp S.fixM zf).2 (Jp S.mem zs).1 (Jp S.fixM zf).1 ht S (Qo1 S.env (ds++Do ht)++S.fix) k=some r) {id:Nat} {Q:Exit→Act→World→Prop}
  (H:∀(β':Nat→Nat) (ρ':Nat→Value) (S':XS) (a':Act) (w':World) (h':Hn),k h' S'=some r→Vh S S' β β' ρ ρ'→Rel X β' ρ' S'.flat a' w'→wpList P ⟨l0⟩ Q (l0.drop p) a' w'):(Code.region id ⟨l0⟩ true).wp P Q a w:=by
 have hm:=Kz zs S.mem
 have hf:=Kz zf S.fixM
 revert hs hm hf
 generalize (Jp S.mem zs).2=Z1
 generalize (Jp S.mem zs).1=M1
 generalize (Jp S.fixM zf).2=Z2
 generalize (Jp S.fixM zf).1=F1
 intro hs hm hf
 unfold dcI dcR at hs
 have hpm:S.flat.mem.Perm ((Z1++Z2)++(M1++F1)):=(hm.symm.append hf.symm).trans (Jp0 Z1 M1 Z2 F1)
 have hBm:∀e∈Qo1 S.env (ds++Do ht)++S.fix,e∈S.flat.env∧∀d∈ds,e.t≠d∧∀c∈e.cs,c.1≠d:=fun e he=>by
  rcases QX.1 he with he | he
  ·obtain⟨q1,q2⟩:=Qw1 he
   exact⟨List.mem_append_left _ q1,fun d hd=>(q2 d (List.mem_append_left _ hd)).2⟩
  ·exact⟨List.mem_append_right _ he,fun d hd=>Qfm (QP.1 hfx d hd) e he⟩
 have h1:Rel X β ρ ⟨Qo1 S.env (ds++Do ht)++S.fix,(M1++F1)++(Z1++Z2)⟩ a w:=Rel.permM (Rel.less h fun e he=>(hBm e he).1) (hpm.trans JJ)
 have h2:=Rel.permM (Jog h1) (JJ (l₁:=M1++F1) (l₂:=Z1++Z2))
 refine Q86 hT hmix hK hX hr hp (prB:=Tn (Qo1 S.env (ds++Do ht)++S.fix)++Jc ((Z1++Z2)++(M1++F1))++S.prot) (Mb:=M1++F1) h2 (fun e he d hd _=>?_) (fun e he i hi=>?_) (fun i hi=>List.mem_append_left _ (List.mem_append_right _ hi)) hb hs
  (fun hh hs0 acc hk=>?_) (fun i hi=>List.mem_append_left _ (List.mem_append_left _ hi)) fun β' ρ' a' w' hh hs0 acc hk hno hbT hag hR=>?_
 ·rcases QX.1 he with he | he
  ·obtain⟨e0,q1,rfl⟩:=Qfs he
   grind
  grind
 ·refine List.mem_append_left _ (List.mem_append_left _ ?_)
  rcases QX.1 he with he | he
  ·obtain⟨e0,q1,rfl⟩:=Qfs he
   exact Q34 q1 (Qlv hi)
  ·exact Q34 he hi
 ·have:=(bvT hk).1
  grind
 ·obtain⟨hck,hk⟩:=bvT hk
  simp only[QQ]at hck
  obtain⟨hck,hkf⟩:=hck
  have hnd:(V0 (Z1++Z2)).Nodup:=by
   unfold Jn6 at hck
   simp only[QQ]at hck
   grind [List.nodup_append,Qbe]
  refine H β' ρ' _ a' w' hh hk ⟨rfl,rfl,rfl,fun i hi=>hag i (List.mem_append_right _ hi)⟩ ?_
  have e2:Bn (V0 Z2) (Z1++Z2) acc Hc=Z2:=by
   unfold Bn V0
   rw[List.filterMap_map]
   refine(Vg (f:=some) fun q hq=>?_).trans ZO
   have hq2:q.1∈V0 Z2:=QZ.2 ⟨q,hq,rfl⟩
   have hl:=Qjz hnd q (List.mem_append_right _ hq)
   simp only[Function.comp,hl]
   rw[Qw7 fun g hg=>hno q.1 (fun hc hm2 hw=>Ix (QP.1 hkf hc hm2) hw hq2) g hg]
   rfl
  have e1:Bn (V0 (Z1++Z2)++Xo hs0) (Z1++Z2) acc Hc=(Bn (V0 Z1) (Z1++Z2) acc Hc++Z2)++Bn (Xo hs0) (Z1++Z2) acc Hc:=by
   rw[Qft,Qzz,Qft,e2]
  have e3:Bn (V0 Z1++Xo hs0) (Z1++Z2) acc Hc=Bn (V0 Z1) (Z1++Z2) acc Hc++Bn (Xo hs0) (Z1++Z2) acc Hc:=Qft
  rw[e1]at hR
  have hperm:(((Bn (V0 Z1) (Z1++Z2) acc Hc++Z2)++Bn (Xo hs0) (Z1++Z2) acc Hc)++(M1++F1)).Perm ((Bn (V0 Z1++Xo hs0) (Z1++Z2) acc Hc++M1)++S.fixM):=by
   rw[e3]
   have p1:((Bn (V0 Z1) (Z1++Z2) acc Hc++Z2)++Bn (Xo hs0) (Z1++Z2) acc Hc).Perm ((Bn (V0 Z1) (Z1++Z2) acc Hc++Bn (Xo hs0) (Z1++Z2) acc Hc)++Z2):=by
    rw[List.append_assoc,List.append_assoc]
    exact List.Perm.append_left _ JJ
   exact((p1.append_right _).trans (Jp0 _ _ _ _)).trans (List.Perm.append_left _ hf)
  refine Rel.less (Rel.permM hR hperm) fun e he=>?_
  rcases QX.1 he with he | he
  ·rcases QX.1 he with he | he
   ·grind
   grind
  ·exact List.mem_append_right _ (List.mem_append_right _ (List.mem_append_right _ he))
end
end Gx
