/- Regions, control, functions. -/
import Derived.Test.YtpdhjildhjpjdaaGreatXMe
import Derived.StillTail
import Derived.Test.YtpdhjildhjpjdaaGreatXH
import Derived.Maps.RangeRun
namespace Gx
open Go Go.RowKit Gd
set_option linter.unusedVariables false
set_option linter.unusedSimpArgs false
def Q4r(P:Program)(gl:List (Nat×Σ t:Ty,t.De))(K:List Con):Prop:=∀c∈K,Qa3 P gl c∧Runs P c.f
def KsX(P:Program)(Y:TX)(X:Cx)(K:List Con):Prop:=Q4r P Y.gl K∧Ur Y.gl (okN X) X.w
theorem Jke{M:List (Nat×Ob)}(x:AV):(Tg M x).isAgg=x.isAgg:=by
 cases x with
 | s id =>
  simp only[Tg]
  split<;>rfl
 | _=>rfl
theorem Q4s{M:List (Nat×Ob)}(x:AV)(cs:List Value):(Tg M x).val cs=x.val cs:=by
 unfold AV.val
 rw[Jke]
theorem Ql4{M:List (Nat×Ob)}:∀{x:AV} {i:Nat},i∈Jd (Tg M x)→i∈Jd x
 | .s id,i,h=>by
  simp only[Tg]at h
  split at h
  ·cases h
  ·exact h
 | .ag l,i,h=>Ql4 (x:=l) h
 | .cons x r,i,h=>by
  rcases QZ.1 (show i∈Jd (Tg M x)++Jd (Tg M r)from h)with h | h
  ·exact List.mem_append_left _ (Ql4 h)
  ·exact List.mem_append_right _ (Ql4 h)
 | .d ..,i,h=>h
 | .p ..,i,h=>h
 | .e ..,i,h=>h
 | .m _,i,h=>h
 | .b _,i,h=>h
 | .w ..,i,h=>h
 | .a ..,i,h=>h
 | .z,i,h=>h
 | .ns,i,h=>h
 | .np,i,h=>h
 | .nm,i,h=>h
 | .nf,i,h=>h
 | .f ..,i,h=>h
 | .tp _,i,h=>h
 | .nil,i,h=>h
section
variable {β:Nat→Nat} {ρ:Nat→Value} {ok:Ok} {w:World}
theorem Qcs{M:List (Nat×Ob)}(hM:∀id o,Qg M id=some o→(Qv β ρ id o).p ok w):∀{m:Bool} {x:AV} {cs:List Value},cr β ρ ok w m x cs→cr β ρ ok w m (Tg M x) cs
 | m,.s id,cs,h=>by
  simp only[Tg]
  split
  ·rename_i e t xs ho
   have h1:=(hM _ _ ho).1
   have h':(∃v,cs=[v]∧zal v (ρ id))∧∃A n c,ρ id=.slice A n c:=by cases m<;>exact h
   obtain⟨⟨v,rfl,hz⟩,_⟩:=h'
   have h2:(rt (.sl t)).rep ok w xs [v]:=⟨_,rfl,U9.1 (Qzu hz h1)⟩
   cases m<;>exact h2
  ·exact h
 | m,.ag l,cs,h=>by
  have h':cr β ρ ok w false l cs:=by cases m<;>exact h
  have:=Qcs hM (m:=false) (x:=l) h'
  cases m<;>exact this
 | true,.cons x r,cs,⟨c1,vs,h1,h2,h3⟩=>⟨c1,vs,by rw[h1,Q4s],Qcs hM h2,Qcs hM h3⟩
 | false,.cons x r,cs,⟨c1,c2,h1,h2,h3⟩=>⟨c1,c2,h1,Qcs hM h2,Qcs hM h3⟩
 | m,.d ..,cs,h=>h
 | m,.p ..,cs,h=>h
 | m,.e ..,cs,h=>h
 | m,.m _,cs,h=>h
 | m,.b _,cs,h=>h
 | m,.w ..,cs,h=>h
 | m,.a ..,cs,h=>h
 | m,.z,cs,h=>h
 | m,.ns,cs,h=>h
 | m,.np,cs,h=>h
 | m,.nm,cs,h=>h
 | m,.nf,cs,h=>h
 | m,.f ..,cs,h=>h
 | m,.tp _,cs,h=>h
 | m,.nil,cs,h=>h
end
theorem Sb.replO{β0:Nat→Nat}{X:Cx}{G:GL}{D:List DF}{H:HL}{O1 O2:List TL}{t t':TL}{a:Act}{w:World}(h:Sb β0 X G D H (O1++t::O2) a w)(h1:∀g,t'.blks g↔t.blks g)(h2:∀b o,t'.cov b o↔t.cov b o)
  (hp:t'.p (Jn X.ok X.w.heap.size β0 H (O1++t::O2) w) w):Sb β0 X G D H (O1++t'::O2) a w:=by
 have hmem:∀u∈O1++t'::O2,u=t'∨u∈O1++t::O2:=fun u hu=>by
  grind
 have ht:t∈O1++t::O2:=List.mem_append_right _ (.head _)
 have hok:∀b o,Jn X.ok X.w.heap.size β0 H (O1++t::O2) w b o→Jn X.ok X.w.heap.size β0 H (O1++t'::O2) w b o:=fun b o ⟨q1,q2,q3,q4⟩=>⟨q1,q2,q3,fun u hu hc=>by
  grind⟩
 refine { sz:=h.sz,df:=h.df,fr:=h.fr,pn:=h.pn,tm:=h.tm,bel:=h.bel,dat:=h.dat.weak hok,obj:=h.obj,own:=fun u hu=>?_,dHH:=h.dHH,dHO:=fun p hp' u hu=>?_,dOO:=?_ }
 ·rcases hmem u hu with rfl | hu
  ·exact⟨u.weak hp hok,fun g hg=>(h.own t ht).2 g ((h1 g).1 hg)⟩
  ·exact⟨u.weak (h.own u hu).1 hok,(h.own u hu).2⟩
 ·rcases hmem u hu with rfl | hu
  ·exact fun hb=>h.dHO p hp' t ht ((h1 _).1 hb)
  ·exact h.dHO p hp' u hu
 ·have:=h.dOO
  rw[QA,List.pairwise_cons]at this ⊢
  grind
theorem Jwy{X:Cx}{β:Nat→Nat}{ρ:Nat→Value}{a:Act}{w:World}{S:XS}(h:Rel X β ρ S.flat a w){id:Nat}{tid:TypeId}{c:AV}(hm:Qg S.mem id=some (.var tid c)):Rel X β ρ (S.set id (.var tid (Tg S.flat.mem c))).flat a w:=by
 have hm':Qg S.flat.mem id=some (.var tid c):=Qx hm
 obtain⟨l1,l2,e1,e2,e3⟩:=Jk hm'
 have hE:(S.set id (.var tid (Tg S.flat.mem c))).flat=⟨S.flat.env,Rk S.flat.mem id (.var tid (Tg S.flat.mem c))⟩:=by
  grind [XS.flat,XS.set,Wg]
 rw[hE,e2]
 have hO:Qk β ρ S.flat.mem=Qk β ρ l1++Qv β ρ id (.var tid c)::Qk β ρ l2:=by rw[e1]; simp[Qk]
 have hmem:Qk β ρ (l1++(id,Ob.var tid (Tg S.flat.mem c))::l2)=Qk β ρ l1++Qv β ρ id (.var tid (Tg S.flat.mem c))::Qk β ρ l2:=by simp[Qk]
 have h0:Sb (fun _=>0) X [] (S.flat.env.map (enD β ρ a)) [] (Qk β ρ l1++Qv β ρ id (.var tid c)::Qk β ρ l2) a w:=by rw[←hO]; exact h
 obtain⟨cs,q1,q2⟩:=(h.ob hm').1
 have hS:=Sb.replO h0 (t':=Qv β ρ id (.var tid (Tg S.flat.mem c))) (fun _=>Iff.rfl) (fun _ _=>Iff.rfl) (by
  rw[←hO]
  exact⟨cs,q1,Qcs h.mm q2⟩)
 exact Rel.ofSb hS hmem.symm fun e he=>by
  have:=Yf.1 hS.dat _ (QK.2 ⟨e,he,rfl⟩)
  rw[←hmem]at this
  exact this
section
variable {P:Program} {Y:TX} {X:Cx} {S:XS} {β β':Nat→Nat} {ρ ρ':Nat→Value} {a a':Act} {w w':World} {n N:Nat} {K:List Con}
variable {Q:Exit→Act→World→Prop} {R:Type} {r:R}
theorem Ql5{env:List En}:∀{ts:List Nat},∀e∈Qv0 env ts,e∈env
 | [],e,he=>by simp[Qv0]at he
 | t::ts,e,he=>by
  simp only[Qv0]at he
  split at he
  ·rename_i x hx
   rcases QX.1 he with rfl | he
   ·grind [Zw]
   ·exact Ql5 e he
  ·exact Ql5 e he
theorem Rel.ent(h:Rel X β ρ S.flat a w)(ks ms:List Nat):Rel X β ρ (S.ent ks ms).flat a w:=by
 have h1:Rel X β ρ ⟨S.env++(Qv0 S.env ks++S.fix),S.flat.mem⟩ a w:=Rel.less (S:=S.flat) h fun e he=>by
  rcases QZ.1 he with he | he
  ·exact List.mem_append_left _ he
  ·rcases QZ.1 he with he | he
   ·exact List.mem_append_left _ (Ql5 e he)
   ·exact List.mem_append_right _ he
 refine h1.permM ?_
 simp only[XS.flat,XS.ent]
 have:=K1 ms S.mem
 rw[←List.append_assoc]
 exact((JG.trans this).append_right _).symm
theorem Qfn(ks ms:List Nat)(S1:St):(S.out ks ms S1).flat=((S.ent ks ms).re S1).flat:=by simp[XS.flat,XS.out,XS.re,XS.ent]
theorem Tk{S0 S':XS}{Γ:Shp}(h:Rel X β ρ S'.flat a w)(hk:S'.fix=S0.fix∧S'.fixM=S0.fixM∧S'.prot=S0.prot){x:Γ.De}(hd:S'.dec Γ=some x) :
  ∃β' ρ',agP S0.prot β β' ρ ρ'∧Rel X β' ρ' (S0.re (enc Γ x)).flat a w:=by
 obtain⟨β',ρ',h1,h2⟩:=XS.dec_ok h hd
 rw[hk.2.2]at h1
 rw[hk.1,hk.2.1]at h2
 exact⟨β',ρ',h1,h2⟩
theorem Qth(h:Rel X β ρ S.flat a w){t:Nat}{x:AV}(he:Xq S.env t=some ⟨t,[],x⟩):Rel X β ρ (XS.put S t [] x).flat a w:=by
 obtain⟨hm,_⟩:=Zw he
 refine Rel.less (S:=S.flat) h fun e hE=>?_
 rcases QZ.1 hE with hE | hE
 ·rcases QX.1 hE with rfl | hE
  ·exact List.mem_append_left _ hm
  ·exact List.mem_append_left _ (Oe hE).1
 ·exact List.mem_append_right _ hE
theorem Jck(h:Rel X β ρ S.flat a w){t:Nat}{b:Bool}(he:Xq S.env t=some ⟨t,[],.d .bool b⟩):Rel X β ρ (XS.put S t [] (.d .bool b)).flat a w:=by
 obtain⟨hm,_⟩:=Zw he
 refine Rel.less (S:=S.flat) h fun e hE=>?_
 rcases QZ.1 hE with hE | hE
 ·rcases QX.1 hE with rfl | hE
  ·exact List.mem_append_left _ hm
  ·exact List.mem_append_left _ (Oe hE).1
 ·exact List.mem_append_right _ hE
theorem Vu(hT:Qy P Y.T)(hK:KsX P Y X K)(hX:X.n=n)(hr:X.res=[]){ops:List Oper}{Q:Exit→Act→World→Prop}:∀{R:Type} {r:R} (h:Hn) {l rest:List Oper} {S:XS} {β:Nat→Nat} {ρ:Nat→Value} {a:Act} {w:World} {k:XS→Option R},
  Rel X β ρ S.flat a w→Y7 Y K n ops h l S k=some r→KOk P ⟨ops⟩ Q rest X S β ρ k r→wpList P ⟨ops⟩ Q (l++rest) a w
 | R,r,.done,l,rest,S,β,ρ,a,w,k,hS,hs,H=>by
  cases l with
  | nil=>exact H β ρ S a w (by simp_all [Y7]) (Vb.refl _ _ _) hS
  | cons o l=>simp[Y7]at hs
 | R,r,.n m g,l,rest,S,β,ρ,a,w,k,hS,hs,H=>by
  simp only[Y7]at hs
  have:=Qz9 (P:=P) (X:=X) (Q:=Q) (r:=r) (Qlu Y n ops) (fun h1 h2 h3=>Jj6 hT hX hr h1 h2 h3) (l1:=l.take m) (rest:=l.drop m++rest) hS hs fun β' ρ' S' a' w' h1 h2 h3=>Vu hT hK hX hr g h3 h1 (H.after h2)
  rwa[←List.append_assoc,List.take_append_drop]at this
 | R,r,.nl m g,l,rest,S,β,ρ,a,w,k,hS,hs,H=>by
  simp only[Y7]at hs
  have:=Qz9 (P:=P) (X:=X) (Q:=Q) (r:=r) (Gx.stepL Y n ops) (fun h1 h2 h3=>Jj7 hT hX hr h1 h2 h3) (l1:=l.take m) (rest:=l.drop m++rest) hS hs fun β' ρ' S' a' w' h1 h2 h3=>Vu hT hK hX hr g h3 h1 (H.after h2)
  rwa[←List.append_assoc,List.take_append_drop]at this
 | R,r,.call c g,l,rest,S,β,ρ,a,w,k,hS,hs,H=>by
  simp only[Y7]at hs
  split at hs
  ·rename_i con o l' hc
   split at hs
   ·rename_i hg
    have hcm:=hK.1 con (List.mem_of_getElem? hc)
    exact Qpj hX hr hS (K0 (N7 hg) _) hcm.1 hK.2 hcm.2 hs fun β' ρ' S' a' w' h1 h2 h3=>Vu hT hK hX hr g h3 h1 (H.after h2)
   ·rename_i t want hg
    split at hs
    ·rename_i t' b he
     split at hs
     ·rename_i hb
      have hbw:b=want:=by simpa using hb
      subst hbw
      obtain⟨cs,h1,h2⟩:=hS.get he (Qf a)
      have h2':cs=_:=h2
      subst h2'
      have hcm:=hK.1 con (List.mem_of_getElem? hc)
      exact Qpj hX hr hS ((Ua hg).2 h1) hcm.1 hK.2 hcm.2 hs fun β' ρ' S' a' w' h1 h2 h3=>Vu hT hK hX hr g h3 h1 (H.after h2)
     ·cases hs
    ·cases hs
   ·cases hs
  ·cases hs
 | R,r,.br g,l,rest,S,β,ρ,a,w,k,hS,hs,H=>by
  simp only[Y7]at hs
  split at hs
  ·rename_i o l'
   split at hs
   ·rename_i hg
    exact Q4j hT hX hr hS (K0 (N7 hg) _) hs fun β' ρ' S' a' w' h1 h2 h3=>Vu hT hK hX hr g h3 h1 (H.after h2)
   ·rename_i t want hg
    split at hs
    ·rename_i t' b he
     split at hs
     ·rename_i hb
      have hbw:b=want:=by simpa using hb
      subst hbw
      obtain⟨cs,h1,h2⟩:=hS.get he (Qf a)
      have h2':cs=_:=h2
      subst h2'
      exact Q4j hT hX hr hS ((Ua hg).2 h1) hs fun β' ρ' S' a' w' h1 h2 h3=>Vu hT hK hX hr g h3 h1 (H.after h2)
     ·cases hs
    ·cases hs
   ·cases hs
  ·cases hs
 | R,r,.fz id g,l,rest,S,β,ρ,a,w,k,hS,hs,H=>by
  simp only[Y7]at hs
  have h1:Rel X β ρ (XS.flat { S with mem:=Vh [id] S.mem }) a w:=by
   have:=Rel.freeze S.mem (l0:=[]) (F:=S.fixM) (ks:=[id]) hS
   simp only[QE]at this
   exact this
  exact Vu hT hK hX hr g h1 hs (H.after ⟨rfl,rfl,rfl,agP.refl _ _ _⟩)
 | R,r,.keep ts g,l,rest,S,β,ρ,a,w,k,hS,hs,H=>by
  simp only[Y7]at hs
  have h1:Rel X β ρ (XS.flat { S with env:=Qv0 S.env ts }) a w:=Rel.less (S:=S.flat) hS fun e he=>by
   rcases QZ.1 he with he | he
   ·exact List.mem_append_left _ (Ql5 e he)
   ·exact List.mem_append_right _ he
  exact Vu hT hK hX hr g h1 hs (H.after ⟨rfl,rfl,rfl,agP.refl _ _ _⟩)
 | R,r,.op src id d g,l,rest,S,β,ρ,a,w,k,hS,hs,H=>by
  simp only[Y7]at hs
  obtain⟨S1,β1,ρ1,h1,h2,hs⟩:=Q39 hS hs
  exact Vu hT hK hX hr g h2 hs (H.after h1)
 | R,r,.cl id g,l,rest,S,β,ρ,a,w,k,hS,hs,H=>by
  simp only[Y7]at hs
  obtain⟨S1,ρ1,h1,h2,hs⟩:=Qxe hS hs
  exact Vu hT hK hX hr g h2 hs (H.after h1)
 | R,r,.fm id g,l,rest,S,β,ρ,a,w,k,hS,hs,H=>by
  simp only[Y7]at hs
  obtain⟨S1,h1,h2,hs⟩:=Q4b hS hs
  exact Vu hT hK hX hr g h2 hs (H.after h1)
 | R,r,.md m g,l,rest,S,β,ρ,a,w,k,hS,hs,H=>by simp[Y7]at hs
 | R,r,.tl g,l,rest,S,β,ρ,a,w,k,hS,hs,H=>by simp[Y7]at hs
 | R,r,.dt _ g,l,rest,S,β,ρ,a,w,k,hS,hs,H=>by simp[Y7]at hs
 | R,r,.si t i x y,l,rest,S,β,ρ,a,w,k,hS,hs,H=>by
  simp only[Y7]at hs
  split at hs
  ·rename_i t' kd v he
   obtain⟨hf,hs⟩:=bvT hs
   split at hs
   ·rename_i hv
    subst hv
    have ht:t'=t:=(Zw he).2
    subst ht
    exact Vu hT hK hX hr x (Qth hS he) hs (H.after ⟨rfl,rfl,rfl,agP.refl _ _ _⟩)
   ·exact Vu hT hK hX hr y hS hs H
  ·cases hs
 | R,r,.so t x y,l,rest,S,β,ρ,a,w,k,hS,hs,H=>by simp[Y7]at hs
 | R,r,.sp t m ks ms Γ x y g,l,rest,S,β,ρ,a,w,k,hS,hs,H=>by
  simp only[Y7]at hs
  split at hs
  ·rename_i t' v he
   have ht':t'=t:=(Zw he).2
   subst ht'
   obtain⟨hb,hs⟩:=bvT hs
   obtain⟨z,hz,hs⟩:=Ys hs
   have hp:=Jck hS he
   have fin:KOk P ⟨ops⟩ Q (l.drop m++rest) X ((XS.put S t' [] (.d .bool v)).ent ks ms) β ρ (fun S'=>S'.dec Γ) z:=by
    intro β1 ρ1 S' a' w' hd hk h1
    obtain⟨β2,ρ2,h2,h3⟩:=Tk (S0:=(XS.put S t' [] (.d .bool v)).ent ks ms) h1 ⟨hk.fix,hk.fixM,hk.prot⟩ hd
    rw[←Qfn]at h3
    refine Vu hT hK hX hr g h3 hs (H.after ⟨rfl,rfl,rfl,?_⟩)
    exact agP.trans hk.ag h2
   have e:l++rest=l.take m++(l.drop m++rest):=by rw[←List.append_assoc,List.take_append_drop]
   rw[e]
   cases v with
   | true =>
    rw[if_pos rfl]at hz
    exact Vu hT hK hX hr x (hp.ent ks ms) hz fin
   | false =>
    rw[if_neg (by simp)]at hz
    exact Vu hT hK hX hr y (hp.ent ks ms) hz fin
  ·cases hs
theorem Qct:∀{R:Type} {r:R} (h:Hn) {S:XS} {β:Nat→Nat} {ρ:Nat→Value} {k:XS→Option R},Rel X β ρ S.flat a w→Th h S k=some r→∃S' β' ρ',k S'=some r∧Vb S S' β β' ρ ρ'∧Rel X β' ρ' S'.flat a w
 | R,r,.done,S,β,ρ,k,hS,hs=>⟨S,β,ρ,hs,Vb.refl _ _ _,hS⟩
 | R,r,.fz id g,S,β,ρ,k,hS,hs=>by
  simp only[Th]at hs
  have h1:Rel X β ρ (XS.flat { S with mem:=Vh [id] S.mem }) a w:=by
   have:=Rel.freeze S.mem (l0:=[]) (F:=S.fixM) (ks:=[id]) hS
   simp only[QE]at this
   exact this
  obtain⟨S',β',ρ',q1,q2,q3⟩:=Qct g h1 hs
  exact⟨S',β',ρ',q1,⟨q2.fix,q2.fixM,q2.prot,q2.ag⟩,q3⟩
 | R,r,.op src id d g,S,β,ρ,k,hS,hs=>by
  simp only[Th]at hs
  obtain⟨S1,β1,ρ1,h1,h2,hs⟩:=Q39 hS hs
  obtain⟨S',β',ρ',q1,q2,q3⟩:=Qct g h2 hs
  exact⟨S',β',ρ',q1,h1.trans q2,q3⟩
 | R,r,.cl id g,S,β,ρ,k,hS,hs=>by
  simp only[Th]at hs
  obtain⟨S1,ρ1,h1,h2,hs⟩:=Qxe hS hs
  obtain⟨S',β',ρ',q1,q2,q3⟩:=Qct g h2 hs
  exact⟨S',β',ρ',q1,h1.trans q2,q3⟩
 | R,r,.fm id g,S,β,ρ,k,hS,hs=>by
  simp only[Th]at hs
  obtain⟨S1,h1,h2,hs⟩:=Q4b hS hs
  obtain⟨S',β',ρ',q1,q2,q3⟩:=Qct g h2 hs
  exact⟨S',β',ρ',q1,h1.trans q2,q3⟩
 | R,r,.n _ _,S,β,ρ,k,hS,hs=>by simp[Th]at hs
 | R,r,.nl _ _,S,β,ρ,k,hS,hs=>by simp[Th]at hs
 | R,r,.md _ _,S,β,ρ,k,hS,hs=>by simp[Th]at hs
 | R,r,.keep _ _,S,β,ρ,k,hS,hs=>by simp[Th]at hs
 | R,r,.sp _ _ _ _ _ _ _ _,S,β,ρ,k,hS,hs=>by simp[Th]at hs
 | R,r,.call _ _,S,β,ρ,k,hS,hs=>by simp[Th]at hs
 | R,r,.tl _,S,β,ρ,k,hS,hs=>by simp[Th]at hs
 | R,r,.dt id g,S,β,ρ,k,hS,hs=>by
  simp only[Th]at hs
  split at hs
  ·rename_i tid c hm
   obtain⟨S',β',ρ',q1,q2,q3⟩:=Qct g (Jwy hS hm) hs
   exact⟨S',β',ρ',q1,⟨q2.fix,q2.fixM,q2.prot,q2.ag⟩,q3⟩
  ·cases hs
 | R,r,.so _ _ _,S,β,ρ,k,hS,hs=>by simp[Th]at hs
 | R,r,.si _ _ _ _,S,β,ρ,k,hS,hs=>by simp[Th]at hs
def TOk(P:Program)(ops:Array Oper)(Q:Act→Prop)(rest:List Oper)(X:Cx)(w:World)(S0:XS)(β:Nat→Nat)(ρ:Nat→Value){R:Type}(k:XS→Option R)(r:R):Prop :=
 ∀(β':Nat→Nat) (ρ':Nat→Value) (S':XS) (a':Act),k S'=some r→Vb S0 S' β β' ρ ρ'→Rel X β' ρ' S'.flat a' w→wpStill P ops w Q rest a'
theorem TOk.after{ops:Array Oper}{Q:Act→Prop}{rest:List Oper}{k:XS→Option R}(h:TOk P ops Q rest X w S β ρ k r){S1:XS}{β1:Nat→Nat}{ρ1:Nat→Value}(hk:Vb S S1 β β1 ρ ρ1):TOk P ops Q rest X w S1 β1 ρ1 k r :=
 fun β' ρ' S' a' h1 h2 h3=>h β' ρ' S' a' h1 (hk.trans h2) h3
section
variable {ops:List Oper} {Qs:Act→Prop} {rest:List Oper} {k:XS→Option R}
theorem Q4t{o:Oper}(hw:Region.wanted o (yielded ⟨ops⟩ a.tmps)=true){v:Value}(hr:(execOp a.eval o).run P w=.ok (.value v) w)(h:wpStill P ⟨ops⟩ w Qs rest (a.put o.dst v)):wpStill P ⟨ops⟩ w Qs (o::rest) a:=by
 simp_all [wpStill,if_pos,Oper.still,Oper.stillUpon_value]
theorem Qti{o:Oper}(hw:Region.wanted o (yielded ⟨ops⟩ a.tmps)=false)(h:wpStill P ⟨ops⟩ w Qs rest (a.put o.dst undef)):wpStill P ⟨ops⟩ w Qs (o::rest) a:=by
 simp_all [wpStill,if_neg]
theorem Qtj(hT:Qy P Y.T)(hX:X.n=n)(hr:X.res=[])(h:Rel X β ρ S.flat a w){o:Oper}(hw:Region.wanted o (yielded ⟨ops⟩ a.tmps)=true)(hs:Q34 Y n o S k=some r)(H:TOk P ⟨ops⟩ Qs rest X w S β ρ k r):wpStill P ⟨ops⟩ w Qs (o::rest) a:=by
 unfold Q34 at hs
 split at hs
 ·rename_i d hd
  obtain⟨hb,hs⟩:=bvT hs
  obtain⟨av,hk,hsem⟩:=Q3z (P:=P) hT rfl hs
  obtain⟨h1,h2⟩:=Vc hb hX hr
  obtain⟨cs,h3,h4⟩:=hsem h.toW (Qf a)
  refine Q4t hw h3 ?_
  rw[hd]
  refine H β ρ _ _ hk (H8 S d [] av) ?_
  rw[Ky h2]
  exact h.put0 h1 h4
 ·cases hs
theorem Q4u(hX:X.n=n)(hr:X.res=[])(h:Rel X β ρ S.flat a w){o:Oper}(hw:Region.wanted o (yielded ⟨ops⟩ a.tmps)=false)(hs:Qfi n o S k=some r)(H:TOk P ⟨ops⟩ Qs rest X w S β ρ k r):wpStill P ⟨ops⟩ w Qs (o::rest) a:=by
 refine Qti hw ?_
 unfold Qfi at hs
 split at hs
 ·rename_i d hd
  obtain⟨hb,hk⟩:=bvT hs
  obtain⟨h1,h2⟩:=Vc hb hX hr
  rw[hd]
  refine H β ρ _ _ hk (H8 S d [] _) ?_
  rw[Ky h2]
  exact h.put0 h1 (x:=.tp .nil) (c:=[.tuple #[]]) ⟨[],rfl,rfl⟩
 ·rename_i hd
  rw[hd]
  exact H β ρ _ _ hs (Vb.refl _ _ _) h
theorem Jgd(hT:Qy P Y.T)(hX:X.n=n)(hr:X.res=[])(h:Rel X β ρ S.flat a w){o:Oper}{t:Nat}{want:Bool}(hg:Qjz ops o=some (some (t,want)))(hs:Qlt Y n t want o S k=some r)(H:TOk P ⟨ops⟩ Qs rest X w S β ρ k r) :
  wpStill P ⟨ops⟩ w Qs (o::rest) a:=by
 unfold Qlt at hs
 split at hs
 ·rename_i t' cs b d he hd
  obtain⟨hb,hs⟩:=bvT hs
  simp only[QQ]at hb
  obtain⟨h1,h2⟩:=Vc hb.1.1 hX hr
  have htd:=neB hb.1.2
  have hud:∀c∈cs,c.1≠d:=Qfd (by grind)
  split at hs
  ·rename_i v hv
   obtain⟨hm,ht'⟩:=Zw he
   simp only at ht'
   subst ht'
   have hkeep:∀u:Value,Jy (a.put (some d) u) ((t',want)::cs)↔Jy a ((t',want)::cs):=by
    intro u
    have hne:∀c∈(t',want)::cs,c.1≠d:=by
     grind
    exact⟨fun hc c hm=>by rw[←Vj (hne c hm) u]; exact hc c hm,fun hc c hm=>by rw[Vj (hne c hm) u]; exact hc c hm⟩
   by_cases hw:Region.wanted o (yielded ⟨ops⟩ a.tmps)=true
   ·have htb:=(Ua hg).1 hw
    have hcs:Jy a cs:=by
     rcases(h.en hm).2 with h3 | h3
     ·exact h3
     grind [R5,Qfc,undef]
    have hcur:Jy a ((t',want)::cs):=by
     intro c hc
     rcases QX.1 hc with rfl | hc
     ·exact htb
     ·exact hcs c hc
    obtain⟨c,h3,h4⟩:=Qlp hT h.toW hcur hv
    refine Q4t hw h3 ?_
    rw[hd]
    refine H β ρ _ _ hs (H8 S d _ _) ?_
    rw[Ky h2]
    exact h.put h1 (fun _=>⟨c,rfl,h4⟩) (.inl ((hkeep _).2 hcur))
   ·have hw':Region.wanted o (yielded ⟨ops⟩ a.tmps)=false:=by simpa using hw
    refine Qti hw' ?_
    rw[hd]
    refine H β ρ _ _ hs (H8 S d _ _) ?_
    rw[Ky h2]
    refine h.put h1 (fun hc=>?_) (.inr rfl)
    have:=(hkeep _).1 hc
    exact absurd ((Ua hg).2 (this _ (.head _))) hw
  ·cases hs
 ·cases hs
theorem Jge(hT:Qy P Y.T)(hX:X.n=n)(hr:X.res=[])(h:Rel X β ρ S.flat a w){o:Oper}(hs:Qz1 Y n ops o S k=some r)(H:TOk P ⟨ops⟩ Qs rest X w S β ρ k r):wpStill P ⟨ops⟩ w Qs (o::rest) a:=by
 grind [Qz1,Qtj,K0,N7,Jgd]
theorem Jgf(hT:Qy P Y.T)(hX:X.n=n)(hr:X.res=[])(h:Rel X β ρ S.flat a w){o:Oper}(hs:Qz2 Y n ops o S k=some r)(H:TOk P ⟨ops⟩ Qs rest X w S β ρ k r):wpStill P ⟨ops⟩ w Qs (o::rest) a:=by
 unfold Qz2 at hs
 split at hs
 ·grind [Qtj,K0,N7]
 ·rename_i t want hg
  split at hs
  ·rename_i t' b he
   obtain⟨cs,h1,h2⟩:=h.get he (Qf a)
   have h2':cs=_:=h2
   subst h2'
   have h1':a.tmps[t]?=some (.bool b):=h1
   split at hs
   ·grind [Qtj,Ua]
   ·rename_i hb
    refine Q4u hX hr h ?_ hs H
    have hne:b≠want:=by simpa using hb
    cases hw:Region.wanted o (yielded ⟨ops⟩ a.tmps)with
    | false=>rfl
    | true =>
     have:=(Ua hg).1 hw
     rw[h1']at this
     grind
  ·rename_i t' he
   obtain⟨cs,h1,vs,h2,h3⟩:=h.get he (Qf a)
   subst h2
   refine Q4u hX hr h ?_ hs H
   cases hw:Region.wanted o (yielded ⟨ops⟩ a.tmps)with
   | false=>rfl
   | true =>
    have:=(Ua hg).1 hw
    rw[h1]at this
    injection this with this
    cases this
  ·cases hs
 ·cases hs
theorem Qtk(st:Oper→XS→(XS→Option R)→Option R)
  (hst:∀{o:Oper} {rest:List Oper} {S:XS} {β:Nat→Nat} {ρ:Nat→Value} {a:Act} {k:XS→Option R},Rel X β ρ S.flat a w→st o S k=some r→TOk P ⟨ops⟩ Qs rest X w S β ρ k r→wpStill P ⟨ops⟩ w Qs (o::rest) a) :
  ∀{l1 rest:List Oper} {S:XS} {β:Nat→Nat} {ρ:Nat→Value} {a:Act} {k:XS→Option R},Rel X β ρ S.flat a w→Qqb st l1 S k=some r→TOk P ⟨ops⟩ Qs rest X w S β ρ k r→wpStill P ⟨ops⟩ w Qs (l1++rest) a
 | [],rest,S,β,ρ,a,k,h,hs,H=>H β ρ S a hs (Vb.refl _ _ _) h
 | o::l1,rest,S,β,ρ,a,k,h,hs,H=>by
  simp only[Qqb]at hs
  refine hst (rest:=l1++rest) h hs fun β' ρ' S' a' hk hkeep h'=>?_
  exact Qtk st hst h' hk (H.after hkeep)
end
theorem Qcu(hT:Qy P Y.T)(hX:X.n=n)(hr:X.res=[]){ops:List Oper}{Qs:Act→Prop}:∀{R:Type} {r:R} (h:Hn) {l rest:List Oper} {S:XS} {β:Nat→Nat} {ρ:Nat→Value} {a:Act} {k:XS→Option R},
  Rel X β ρ S.flat a w→On Y n ops h l S k=some r→TOk P ⟨ops⟩ Qs rest X w S β ρ k r→wpStill P ⟨ops⟩ w Qs (l++rest) a
 | R,r,.done,l,rest,S,β,ρ,a,k,hS,hs,H=>by
  cases l with
  | nil=>exact H β ρ S a (by grind [On]) (Vb.refl _ _ _) hS
  | cons o l=>simp[On]at hs
 | R,r,.n m g,l,rest,S,β,ρ,a,k,hS,hs,H=>by
  simp only[On]at hs
  have:=Qtk (P:=P) (X:=X) (w:=w) (r:=r) (Qz1 Y n ops) (fun h1 h2 h3=>Jge hT hX hr h1 h2 h3) (l1:=l.take m) (rest:=l.drop m++rest) hS hs fun β' ρ' S' a' h1 h2 h3=>Qcu hT hX hr g h3 h1 (H.after h2)
  rwa[←List.append_assoc,List.take_append_drop]at this
 | R,r,.nl m g,l,rest,S,β,ρ,a,k,hS,hs,H=>by
  simp only[On]at hs
  have:=Qtk (P:=P) (X:=X) (w:=w) (r:=r) (Qz2 Y n ops) (fun h1 h2 h3=>Jgf hT hX hr h1 h2 h3) (l1:=l.take m) (rest:=l.drop m++rest) hS hs fun β' ρ' S' a' h1 h2 h3=>Qcu hT hX hr g h3 h1 (H.after h2)
  rwa[←List.append_assoc,List.take_append_drop]at this
 | R,r,.call c g,l,rest,S,β,ρ,a,k,hS,hs,H=>by simp[On]at hs
 | R,r,.fz id g,l,rest,S,β,ρ,a,k,hS,hs,H=>by simp[On]at hs
 | R,r,.keep ts g,l,rest,S,β,ρ,a,k,hS,hs,H=>by simp[On]at hs
 | R,r,.md m g,l,rest,S,β,ρ,a,k,hS,hs,H=>by simp[On]at hs
 | R,r,.cl _ _,l,rest,S,β,ρ,a,k,hS,hs,H=>by simp[On]at hs
 | R,r,.op _ _ _ _,l,rest,S,β,ρ,a,k,hS,hs,H=>by simp[On]at hs
 | R,r,.fm _ _,l,rest,S,β,ρ,a,k,hS,hs,H=>by simp[On]at hs
 | R,r,.tl g,l,rest,S,β,ρ,a,k,hS,hs,H=>by simp[On]at hs
 | R,r,.dt _ g,l,rest,S,β,ρ,a,k,hS,hs,H=>by simp[On]at hs
 | R,r,.si _ _ _ _,l,rest,S,β,ρ,a,k,hS,hs,H=>by simp[On]at hs
 | R,r,.so t x y,l,rest,S,β,ρ,a,k,hS,hs,H=>by simp[On]at hs
 | R,r,.sp t m ks ms Γ x y g,l,rest,S,β,ρ,a,k,hS,hs,H=>by
  simp only[On]at hs
  split at hs
  ·rename_i t' v he
   have ht':t'=t:=(Zw he).2
   subst ht'
   obtain⟨hb,hs⟩:=bvT hs
   obtain⟨z,hz,hs⟩:=Ys hs
   have hp:=Jck hS he
   have fin:TOk P ⟨ops⟩ Qs (l.drop m++rest) X w ((XS.put S t' [] (.d .bool v)).ent ks ms) β ρ (fun S'=>S'.dec Γ) z:=by
    intro β1 ρ1 S' a' hd hk h1
    obtain⟨β2,ρ2,h2,h3⟩:=Tk (S0:=(XS.put S t' [] (.d .bool v)).ent ks ms) h1 ⟨hk.fix,hk.fixM,hk.prot⟩ hd
    rw[←Qfn]at h3
    refine Qcu hT hX hr g h3 hs (H.after ⟨rfl,rfl,rfl,?_⟩)
    exact agP.trans hk.ag h2
   have e:l++rest=l.take m++(l.drop m++rest):=by rw[←List.append_assoc,List.take_append_drop]
   rw[e]
   cases v with
   | true =>
    rw[if_pos rfl]at hz
    exact Qcu hT hX hr x (hp.ent ks ms) hz fin
   | false =>
    rw[if_neg (by simp)]at hz
    exact Qcu hT hX hr y (hp.ent ks ms) hz fin
  ·cases hs
theorem Rel.drew(h:Rel X β ρ S.flat a w):Rel X β ρ S.flat a { w with drawn:=w.drawn+1 }:=Sb.below h ((Below.refl _ _).drew)
end
end Gx

/- A region whose order is drawn, by an invariant alone. -/
namespace Gx
open Go Go.RowKit Gd
set_option linter.unusedVariables false
set_option linter.unusedSimpArgs false
section
variable {P:Program} {a:Act} {w:World}
theorem Q9u(I:(Nat→Bool)→Act→World→Prop){id:Nat}{l:List Oper}{Q:Exit→Act→World→Prop}(hm:P.follows .mixedOrders=true)(p:Nat)(hIE:∀(E E':Nat→Bool) (a:Act) (w:World),(∀i,i<p→E i=E' i)→I E a w→I E' a w)
  (hple:Nat.ble p l.length=true) (hback:Gd.backB l=true) (hfin:Jui l p=true) (h0:I (fun _=>false) a w.drew)
  (hstep:∀(E:Nat→Bool) (i:Nat) (o:Oper) (a:Act) (w:World) (Q':Exit→Act→World→Prop),i<p→l[i]?=some o→Qr6 l (fun j=>E j=true)→E i=false→(∀e∈o.after.toList,Region.binds .any e=true→E e.on=true)→I E a w →
   (∀a' w',I (fun j=>j==i||E j) a' w'→Q' .normal a' w')→wpList P ⟨l⟩ Q' [o] a w)
  (hend:∀a' w',I (fun _=>true) a' w'→wpList P ⟨l⟩ Q (l.drop p) a' w') :
  (Code.region id ⟨l⟩ true).wp P Q a w:=by
 refine wp_region_any hm ?_
 have hpl:=QV hple
 let E (listed:Array Bool):Nat→Prop:=fun i=>listed.getD i false=true
 let J1 (listed:Array Bool) (a:Act) (w:World):Prop:=(∀k,p≤k→¬ E listed k)∧I (fun i=>listed.getD i false) a w
 let J (listed:Array Bool) (a:Act) (w:World):Prop:=listed.size=l.length∧Qr6 l (E listed) ∧
  (J1 listed a w∨(∃k,p<k∧(∀i,i<l.length→(E listed i↔i<k))∧wpList P ⟨l⟩ Q (l.drop k) a w))
 have hset:∀(listed:Array Bool) (i j:Nat),listed.size=l.length→i<l.length→(E (listed.setIfInBounds i true) j↔(j=i∨E listed j)):=by
  intro listed i j hs hi
  simp only[E,QI,Array.getElem?_setIfInBounds,hs]
  grind
 have hsetB:∀(listed:Array Bool) (i j:Nat),listed.size=l.length→i<l.length→(listed.setIfInBounds i true).getD j false=(j==i||listed.getD j false):=by
  grind
 have hgo:∀listed a w,J1 listed a w→(∀j,j<p→E listed j)→wpList P ⟨l⟩ Q (l.drop p) a w:=by
  grind
 have hdone:∀listed a w,J listed a w→(∀i,i<l.length→E listed i)→Q .normal a w:=by
  rintro listed a w ⟨hs,hc,h1 | ⟨k,hk,hE,hw⟩⟩ hall
  ·have hpm:p=l.length:=by
    rcases Nat.lt_or_ge p l.length with hlt | hge
    ·grind
    ·omega
   have:=hgo listed a w h1 fun i hi=>hall i (by omega)
   rw[hpm,XN]at this
   exact this
  ·have hkl:l.length≤k:=by
    grind
   rw[ZI hkl]at hw
   exact hw
 have step1:∀(listed:Array Bool) (a:Act) (w:World) (i:Nat) (o:Oper) (Q':Exit→Act→World→Prop),listed.size=l.length→Qr6 l (E listed)→J1 listed a w→i<p→l[i]?=some o→¬ E listed i →
   (∀e∈o.after.toList,Region.binds .any e=true→listed.getD e.on false=true)→(∀a' w',J1 (listed.setIfInBounds i true) a' w'→Q' .normal a' w')→wpList P ⟨l⟩ Q' [o] a w:=by
  grind
 have main:∀(fuel:Nat) (listed:Array Bool) (a:Act) (w:World),J listed a w→((List.range l.length).filter fun i=>!listed.getD i false).length≤fuel→wpAny P .any ⟨l⟩ Q fuel listed a w:=by
  intro fuel
  induction fuel with
  | zero =>
   intro listed a w hJ hle
   have hall:∀i,i<l.length→E listed i:=by
    intro i hi
    cases hl:listed.getD i false with
    | true=>exact hl
    | false =>
     have:i∈(List.range l.length).filter fun i=>!listed.getD i false:=QN.2 ⟨JH.2 hi,by rw[hl]; rfl⟩
     have hnil:=QH (Nat.le_zero.1 hle)
     rw[hnil]at this; simp at this
   refine⟨?_,hdone listed a w hJ hall⟩
   apply List.eq_nil_iff_forall_not_mem.2
   intro i hi
   rw[Qnd]at hi
   have h1:=hall i hi.1
   have h2:=hi.2.1
   grind
  | succ fuel ih =>
   intro listed a w hJ hle
   refine⟨fun hr=>hdone listed a w hJ (Q86 hJ.1 hback hr),fun i hi=>?_⟩
   rw[Qnd]at hi
   obtain⟨hil,hnl,o,ho,hpre⟩:=hi
   obtain⟨hs,hc,hcase⟩:=hJ
   have hniE:¬ E listed i:=by
    grind
   have hcl:Qr6 l (E (listed.setIfInBounds i true)):=by
    intro j oj hj hoj e he hb
    rw[hset listed i _ hs hil]at hj ⊢
    rcases hj with rfl | hj
    ·rw[ho]at hoj; grind
    ·exact .inr (hc j oj hj hoj e he hb)
   have hcnt:((List.range l.length).filter fun j=>!(listed.setIfInBounds i true).getD j false).length≤fuel:=by
    have hlt:((List.range l.length).filter fun j=>!(listed.setIfInBounds i true).getD j false).length<((List.range l.length).filter fun j=>!listed.getD j false).length:=by
     apply Qtg (x:=i)
     ·grind
     ·grind
     ·have:=(hset listed i i hs hil).2 (.inl rfl)
      grind
     grind
    omega
   rcases hcase with hJ1 | ⟨k,hk,hE,hw⟩
   ·rcases Nat.lt_or_ge i p with hip | hip
    ·
     exact Qzn ho (step1 listed a w i o (Exit.then (wpAny P .any ⟨l⟩ Q fuel (listed.setIfInBounds i true)) Q) hs hc hJ1 hip ho hniE hpre fun a' w' hJ1=>ih _ a' w' ⟨by simp[hs],hcl,.inl hJ1⟩ hcnt)
    ·
     have hall:∀j,j<i→E listed j:=fun j hj=>Qat hc l.length i j (Jcj hfin hip hil hj) fun o' ho'=>by rw[ho]at ho'; injection ho' with ho'; subst ho'; exact hpre
     have hip':i=p:=by
      rcases Nat.lt_or_ge p i with hlt | hge
      ·exact absurd (hall p hlt) (hJ1.1 p (QU _))
      ·omega
     subst hip'
     have hw:=hgo listed a w hJ1 hall
     refine wpOp_mono (fun a w hw'=>ih _ a w ⟨by simp[hs],hcl,.inr ⟨i+1,by omega,fun j hj=>?_,hw'⟩⟩ hcnt) (Qlb ho hw)
     rw[hset listed i j hs hil]
     grind
   ·
    have hall:∀j,j<i→E listed j:=by
     intro j hj
     have hpi:p<i:=by
      rcases Nat.lt_or_ge i k with h1 | h1
      ·exact absurd ((hE i hil).2 h1) hniE
      ·omega
     exact Qat hc l.length i j (Jcj hfin (by omega) hil hj) fun o' ho'=>by rw[ho]at ho'; injection ho' with ho'; subst ho'; exact hpre
    have hik:i=k:=by
     rcases Nat.lt_or_ge i k with h1 | h1
     ·exact absurd ((hE i hil).2 h1) hniE
     ·rcases Nat.lt_or_ge k i with h2 | h2
      ·have:=(hE k (by omega)).1 (hall k h2); omega
      ·omega
    subst hik
    refine wpOp_mono (fun a w hw'=>ih _ a w ⟨by simp[hs],hcl,.inr ⟨i+1,by omega,fun j hj=>?_,hw'⟩⟩ hcnt) (Qlb ho hw)
    rw[hset listed i j hs hil,hE j hj]
    constructor
    ·rintro(rfl | h1)<;>omega
    ·intro h1
     rcases Nat.lt_or_ge j i with h2 | h2
     ·exact .inr h2
     ·exact .inl (by omega)
 refine main _ _ a _ ⟨by simp,fun i o hE=>?_,.inl ⟨fun k _ hE=>?_,?_⟩⟩ ?_
 ·simp only[E]at hE; simp[QI,XE]at hE
  split at hE<;>simp at hE
 ·simp only[E]at hE; simp[QI,XE]at hE
  split at hE<;>simp at hE
 ·refine hIE (fun _=>false) _ a _ (fun i hi=>?_) h0
  simp only[QI,XE]
  split<;>rfl
 grind
end
end Gx

/- One operation, with the rest of the state set aside. -/
namespace Gx
open Go Go.RowKit Gd
set_option linter.unusedVariables false
set_option linter.unusedSimpArgs false
theorem Qj5{β:Nat→Nat}{ρ:Nat→Value}:∀{M:List (Nat×Ob)} {q:Nat×Ob},Wo M=true→q∈M→∀{b o:Nat},(Qv β ρ q.1 q.2).blks b→(Qv β ρ q.1 q.2).cov b o
 | (k,ob)::l,q,h,hq,b,o,hb=>by
  cases ob with
  | tail e t xs=>cases h
  | _ =>
   rcases QX.1 hq with rfl | hq
   ·exact hb
   ·exact Qj5 (M:=l) h hq hb
def Jrh(o:Oper)(a a':Act):Prop:=∀t,o.dst≠some t→a'.tmps[t]?=a.tmps[t]?
def Jri(o:Oper)(a:Act)(Q:Exit→Act→World→Prop):Exit→Act→World→Prop
 | .normal,a',w'=>Jrh o a a'→Q .normal a' w'
 | e,a',w'=>Q e a' w'
theorem N8(o:Oper)(a:Act)(v:Value):Jrh o a (a.put o.dst v):=by
 intro t ht
 cases hd:o.dst with
 | none=>rfl
 | some d=>grind [Vj]
theorem Q4v{P:Program}{ops:Array Oper}{Q:Exit→Act→World→Prop}{o:Oper}{a:Act}{w:World}(h:wpList P ops (Jri o a Q) [o] a w):wpList P ops Q [o] a w:=by
 unfold wpList at h ⊢
 split at h
 ·rename_i hw
  rw[if_pos hw]
  rcases h with h | ⟨h1,h2⟩
  ·left
   unfold Oper.wp at h ⊢
   cases hr:(execOp a.eval o).run P w with
   | ok nx w' =>
    rw[hr]at h
    cases nx with
    | value v=>exact h (N8 o a v)
    | skip=>exact h (N8 o a undef)
    | defer d =>
     refine h fun t ht=>?_
     have:=N8 o { a with defers:=d::a.defers } undef t ht
     exact this
    | enter f args =>
     refine Calls.mono h fun e w' he=>?_
     cases e with
     | returned v=>exact he (N8 o a v)
     | panicked c=>exact he
     | outgrown=>exact he
    | row r args=>exact Rows.mono h fun v w' hv=>hv (N8 o a v)
    | _=>exact h.elim
   | halt hl w' =>
    rw[hr]at h
    cases hl with
    | panic v=>exact h
    | _=>exact h.elim
  ·exact .inr ⟨h1,h2⟩
 ·rename_i hw
  rw[if_neg hw]
  exact h (N8 o a undef)
open Classical in
noncomputable def Bn(n:Nat)(O:List TL):List Nat:=(List.range n).filter fun g=>decide (∃t∈O,t.blks g)
section
variable {P:Program} {Y:TX} {X:Cx} {β:Nat→Nat} {ρ:Nat→Value} {a:Act} {w:World} {ops:Array Oper} {Q:Exit→Act→World→Prop} {o:Oper}
theorem Jkf(hG:Ur Y.gl (okN X) X.w)(hr:X.res=[])(hp:X.pin=none){Ve Fe:List En}{Vm Fm:List (Nat×Ob)}{S1:St}{pr:List Nat}(h:Rel X β ρ ⟨Ve++Fe,Vm++Fm⟩ a w)(hV:Wo Vm=true)
    (hF:∀e∈Fe,(∀i∈Jd e.av,i∈pr)∧∀d,o.dst=some d→e.t≠d∧∀c∈e.cs,c.1≠d) (hFm:∀i∈Je Fm,i∈pr)
    (hstep:∀(X1:Cx) (Q1:Exit→Act→World→Prop),X1.n=X.n→X1.res=[]→X1.pin=none→Ur Y.gl (okN X1) X1.w→Rel X1 β ρ ⟨Ve,Vm⟩ a w→(∀β' ρ' a' w',agP pr β β' ρ ρ'→Rel X1 β' ρ' S1 a' w'→Q1 .normal a' w')→wpList P ops Q1 [o] a w)
    (H:∀β' ρ' a' w',agP pr β β' ρ ρ'→Rel X β' ρ' ⟨S1.env++Fe,S1.mem++Fm⟩ a' w'→Q .normal a' w'):wpList P ops Q [o] a w:=by
  have eM:Qk β ρ (Vm++Fm)=Qk β ρ Vm++Qk β ρ Fm:=QD
  have hS:Sb (fun _=>0) X [] ((Ve++Fe).map (enD β ρ a)) [] (Qk β ρ Vm++Qk β ρ Fm) a w:=by rw[←eM]; exact h
  have hL1:∀t∈Qk β ρ Vm,∀g,t.blks g→g∈Bn w.heap.size (Qk β ρ Vm):=fun t ht g hg=>by
    unfold Bn
    exact QN.2 ⟨JH.2 (hS.olt (List.mem_append_left _ ht) hg),by grind⟩
  have hL2:∀g∈Bn w.heap.size (Qk β ρ Vm),∃t∈Qk β ρ Vm,t.blks g:=fun g hg=>by
    simp_all [Bn,QN,decide_eq_true_eq]
  have hcov:∀t∈Qk β ρ Vm,∀b o,t.blks b→t.cov b o:=fun t ht b o hb=>by
    obtain⟨q,hq,rfl⟩:=QK.1 ht
    grind [Qj5]
  have hk:∀b f,Jn X.ok X.w.heap.size (fun _=>0) [] (Qk β ρ Vm++Qk β ρ Fm) w b f→Jn (okL (Bn w.heap.size (Qk β ρ Vm)) (Jn X.ok X.w.heap.size (fun _=>0) [] (Qk β ρ Vm++Qk β ρ Fm) w)) w.heap.size (fun _=>0) [] (Qk β ρ Vm) w b f :=
    fun b f hbo=>⟨.inl (.inl hbo),hbo.2.1,by simp,fun t ht hc=>hbo.2.2.2 t (List.mem_append_left _ ht) hc⟩
  refine Q4v (hstep { cxL (Bn w.heap.size (Qk β ρ Vm)) X.n (Jn X.ok X.w.heap.size (fun _=>0) [] (Qk β ρ Vm++Qk β ρ Fm) w) w with dfs:=X.dfs } (Jri o a Q) rfl rfl rfl ?_ ?_ fun β' ρ' a' w' hag hR hsame=>?_)
  · exact(Qa2 hS hG).weak fun b f hbo=>⟨.inl hbo,fun hbl=>by
      obtain⟨t,ht,hg⟩:=hL2 b hbl
      exact hbo.2.2.2 t (List.mem_append_left _ ht) (hcov t ht b f hg),hbo.2.1⟩
  · exact { sz:=hS.sz,df:=hS.df,fr:=by simp,pn:=by simp,tm:=by simp,bel:=Zt.refl _ _ _,obj:=by simp,dHH:=by simp,dHO:=by simp,
            dat:=Yf.2 fun x hx=>by
              obtain⟨e,he,rfl⟩:=QK.1 hx
              exact(enD β ρ a e).weak (Yf.1 hS.dat _ (QK.2 ⟨e,List.mem_append_left _ he,rfl⟩)) hk,
            own:=fun t ht=>⟨t.weak (hS.own t (List.mem_append_left _ ht)).1 hk,fun g hg=>.inr (hL1 t ht g hg)⟩,
            dOO:=(QA.1 hS.dOO).1 }
  · have hC:=Sb.callO (O1':=Qk β' ρ' S1.mem) hS hR.bel hL2 hcov (fun t ht=>⟨(hR.own t ht).1,fun g hg=>(hR.own t ht).2 g hg⟩) hR.dOO
    have hsim:Wp (Qk β ρ Fm) (Qk β' ρ' Fm):=Qxk fun i hi=>hag i (hFm i hi)
    have hC2:=hC.simO ((Wp.refl (Qk β' ρ' S1.mem)).append hsim)
    have hmem:Qk β' ρ' (S1.mem++Fm)=Qk β' ρ' S1.mem++Qk β' ρ' Fm:=QD
    have hC3:Sb (fun _=>0) X [] [] [] (Qk β' ρ' S1.mem++Qk β' ρ' Fm) a' w' :=
      { sz:=hR.sz,df:=hR.df,fr:=by rw[hr]; simp,pn:=by rw[hp]; simp,tm:=by simp,bel:=hC2.bel,dat:=trivial,obj:=by simp,own:=hC2.own,dHH:=by simp,dHO:=by simp,dOO:=hC2.dOO }
    refine H β' ρ' a' w' hag (Rel.ofSb hC3 hmem.symm fun e he=>?_)
    rcases QZ.1 he with he | he
    · have h1:=Yf.1 hR.dat _ (QK.2 ⟨e,he,rfl⟩)
      refine(enD β' ρ' a' e).weak h1 fun b f hbf=>?_
      have h2:=Qhs hS hR.bel.size hL2 b f hbf
      have h3:=((Wp.refl (Qk β' ρ' S1.mem)).append hsim).ok b f h2
      grind
    · have h1:=Yf.1 hC2.dat _ (QK.2 ⟨e,List.mem_append_right _ he,rfl⟩)
      obtain⟨hi,hd⟩:=hF e he
      have ht:∀t,(∀d,o.dst=some d→t≠d)→a'.tmps[t]?=a.tmps[t]?:=fun t ht=>hsame t fun hd=>ht t hd rfl
      have hcc:Jy a' e.cs↔Jy a e.cs:=⟨fun hc c hm=>by rw[←ht _ fun d hd'=>(hd d hd').2 c hm]; exact hc c hm,fun hc c hm=>by rw[ht _ fun d hd'=>(hd d hd').2 c hm]; exact hc c hm⟩
      have hrd:rd a' e.t=rd a e.t:=by grind [rd]
      refine⟨fun hc=>?_,?_⟩
      · obtain⟨cs,q1,q2⟩:=h1.1 (hcc.1 hc)
        refine⟨cs,by rw[hrd]; exact q1,?_⟩
        unfold okR
        rw[hmem]
        exact Hj (fun i hm=>hag i (hi i hm)) q2
      · rw[hcc,hrd]; exact h1.2
end
end Gx

/- Regions of open order by ordinary steps: what is found, what is one's own. -/
namespace Gx
open Go Go.RowKit Gd
set_option linter.unusedVariables false
set_option linter.unusedSimpArgs false
theorem Q9v{id:Nat}{e:EC}{c:Option Ob}(h:Km id e=false):upC id e c=c:=by
 unfold Km at h
 unfold upC
 cases hl:Qpf e.ups id with
 | none=>rfl
 | some x=>rw[hl]at h; cases h
theorem Sc{E:Nat→Bool}{id:Nat}:∀{l1 l2:List EC} {j:Nat} {c:Option Ob},Y0 E id (l1++l2) j c=Y0 E id l2 (j+l1.length) (Y0 E id l1 j c)
 | [],l2,j,c=>rfl
 | e::l1,l2,j,c=>by
  simp only[QF,Y0,Sc (l1:=l1),List.length_cons]
  rw[show j+1+l1.length=j+(l1.length+1) by omega]
theorem Ov{E E':Nat→Bool}{id:Nat}:∀{l:List EC} {j:Nat} {c:Option Ob},(∀(k:Nat) e,l[k]?=some e→Km id e=true→E (j+k)=E' (j+k))→Y0 E id l j c=Y0 E' id l j c
 | [],j,c,_=>rfl
 | e0::l,j,c,h=>by
  simp only[Y0]
  have e:(bif E j then upC id e0 c else c)=(bif E' j then upC id e0 c else c):=by
   cases ht:Km id e0 with
   | true=>rw[show E j=E' j from h 0 _ rfl ht]
   | false=>rw[Q9v ht]; cases E j<;>cases E' j<;>rfl
  rw[e]
  exact Ov fun k g hk ht=>by
   have:=h (k+1) g (by simpa using hk) ht
   rw[show j+1+k=j+(k+1) by omega]; exact this
theorem N9{E:Nat→Bool}{id:Nat}:∀{l:List EC} {j:Nat} {c:Option Ob},(∀(k:Nat) e,l[k]?=some e→Km id e=true→E (j+k)=false)→Y0 E id l j c=c
 | [],j,c,_=>rfl
 | e0::l,j,c,h=>by
  simp only[Y0]
  have e:(bif E j then upC id e0 c else c)=c:=by
   cases ht:Km id e0 with
   | true=>rw[show E j=false from h 0 _ rfl ht]; rfl
   | false=>rw[Q9v ht]; cases E j<;>rfl
  rw[e]
  exact N9 fun k g hk ht=>by
   have:=h (k+1) g (by simpa using hk) ht
   rw[show j+1+k=j+(k+1) by omega]; exact this
theorem Q4w{acc:List EC}{i:Nat}{g:EC}(hg:acc[i]?=some g):acc=acc.take i++g::acc.drop (i+1)∧(acc.take i).length=i:=by
 have hi:i<acc.length:=(List.getElem?_eq_some_iff.1 hg).1
 rw[List.getElem?_eq_getElem hi]at hg
 grind [List.length_take,List.drop_eq_getElem_cons,List.take_append_drop]
section
variable {E:Nat→Bool} {acc:List EC} {i id:Nat} {g:EC} {c:Option Ob}
theorem Jkg(hg:acc[i]?=some g)(hi:E i=false)(he:∀(j:Nat) g',acc[j]?=some g'→j<i→Km id g'=true→E j=true)(hl:∀(j:Nat) g',acc[j]?=some g'→i<j→Km id g'=true→E j=false) :
  Y0 E id acc 0 c=Y0 Hd id (acc.take i) 0 c:=by
 obtain⟨e1,e2⟩:=Q4w hg
 have e3:Y0 E id acc 0 c=Y0 E id (acc.take i++g::acc.drop (i+1)) 0 c:=by rw[←e1]
 rw[e3,Sc,e2,QW]
 simp only[Y0,hi,cond_false]
 rw[N9 fun k g' hk ht=>hl (i+1+k) g' (by rw[JW]at hk; exact hk) (by omega) ht]
 refine Ov fun k g' hk ht=>?_
 rw[JV]at hk
 split at hk
 ·rw[QW,he k g' hk (by omega) ht]; rfl
 ·cases hk
theorem Jkh(hg:acc[i]?=some g)(hi:E i=false)(hl:∀(j:Nat) g',acc[j]?=some g'→i<j→Km id g'=true→E j=false) :
  Y0 (Qh8 E i) id acc 0 c=upC id g (Y0 E id acc 0 c):=by
 obtain⟨e1,e2⟩:=Q4w hg
 have e3:∀E,Y0 E id acc 0 c=Y0 E id (acc.take i++g::acc.drop (i+1)) 0 c:=fun E=>by rw[←e1]
 rw[e3,e3,Sc,Sc,e2,QW]
 simp only[Y0,hi,cond_false,BEq.rfl,Bool.true_or,cond_true]
 have h1:Y0 (Qh8 E i) id (acc.take i) 0 c=Y0 E id (acc.take i) 0 c:=Ov fun k g' hk ht=>by
  have:k<i:=by
   rw[JV]at hk
   grind
  simp only[Qh8,QW]
  rw[show(k==i)=false by simp; omega]; rfl
 have h2:∀c',Y0 (Qh8 E i) id (acc.drop (i+1)) (i+1) c'=c':=fun c'=>N9 fun k g' hk ht=>by
  grind
 have h3:∀c',Y0 E id (acc.drop (i+1)) (i+1) c'=c':=fun c'=>N9 fun k g' hk ht=>hl (i+1+k) g' (by rw[JW]at hk; exact hk) (by omega) ht
 rw[h2,h3,h1]
 grind
theorem Jki(hg:acc[i]?=some g)(ht:Km id g=false):Y0 (Qh8 E i) id acc 0 c=Y0 E id acc 0 c :=
 Ov fun k g' hk ht'=>by
  rw[QW]
  by_cases e:k=i
  ·grind
  grind
theorem Ql6{E:Nat→Bool}:∀{acc:List EC} {j:Nat} {e:En},e∈L1 E acc j→∃(k:Nat) (g:EC),acc[k]?=some g∧E (j+k)=true∧g.has=true∧e=⟨g.d,[],g.av⟩
 | [],j,e,h=>by cases h
 | g::l,j,e,h=>by
  simp only[L1]at h
  cases hb:(E j&&g.has)with
  | true =>
   rw[hb]at h
   simp only[QQ]at hb
   rcases QX.1 h with rfl | h
   ·exact⟨0,g,rfl,hb.1,hb.2,rfl⟩
   ·obtain⟨k,g',h1,h2,h3,h4⟩:=Ql6 h
    exact⟨k+1,g',by simpa using h1,by rw[show j+(k+1)=j+1+k by omega]; exact h2,h3,h4⟩
  | false =>
   rw[hb]at h
   obtain⟨k,g',h1,h2,h3,h4⟩:=Ql6 h
   exact⟨k+1,g',by simpa using h1,by rw[show j+(k+1)=j+1+k by omega]; exact h2,h3,h4⟩
theorem Q0f{E:Nat→Bool}:∀{acc:List EC} {j k:Nat} {g:EC},acc[k]?=some g→E (j+k)=true→g.has=true→(⟨g.d,[],g.av⟩:En)∈L1 E acc j
 | [],j,k,g,h,_,_=>by simp at h
 | g0::l,j,0,g,h,h1,h2=>by
  grind [L1]
 | g0::l,j,k+1,g,h,h1,h2=>by
  have:=Q0f (acc:=l) (j:=j+1) (k:=k) (by simpa using h) (by rw[show j+1+k=j+(k+1) by omega]; exact h1) h2
  grind [L1]
end
theorem Jgg{ids:List Nat}:∀{names:List Nat},ids.Nodup→names.Nodup→(∀i∈ids,i∈names)→names.Perm (ids++names.filter fun i=>!Yi ids i):=by
 induction ids with
 | nil =>
  intro names _ _ _
  have:(names.filter fun i=>!Yi [] i)=names:=List.filter_eq_self.2 fun _ _=>rfl
  rw[this]
  grind
 | cons x ids ih =>
  intro names hi hn hs
  have hi':=QT.1 hi
  obtain⟨l1,l2,rfl⟩:=List.append_of_mem (hs x (.head _))
  have hn2:(l1++l2).Nodup∧x∉l1++l2:=by
   have:=(List.perm_middle.nodup_iff (l₁:=l1++x::l2)).1 hn
   grind
  have h1:=ih (names:=l1++l2) hi'.2 hn2.1 fun i him=>by
   have:=hs i (.tail _ him)
   grind
  have e:((l1++x::l2).filter fun i=>!Yi (x::ids) i)=(l1++l2).filter fun i=>!Yi ids i:=by
   have hf:∀l:List Nat,x∉l→(l.filter fun i=>!Yi (x::ids) i)=l.filter fun i=>!Yi ids i:=fun l hx=>by
    refine List.filter_congr fun i him=>?_
    have hne:x≠i:=fun e=>hx (e▸him)
    simp only[Yi,Jwx hne,KW]
   rw[List.filter_append,XM]
   have hx0:(!Yi (x::ids) x)=false:=by simp[Yi,Nat.beq_refl]
   rw[hx0]
   grind
  rw[e]
  exact List.perm_middle.trans (List.Perm.cons x h1)
end Gx

/- One operation of a region of open order, by an ordinary step. -/
namespace Gx
open Go Go.RowKit Gd
set_option linter.unusedVariables false
set_option linter.unusedSimpArgs false
theorem Qn1:∀{ids:List Nat} {M:List (Nat×Ob)},ids.Nodup→(Jt M ids).2=ids.filterMap fun t=>Kx t (Qg M t)
 | [],M,_=>rfl
 | t::ts,M,hn=>by
  have hn':=QT.1 hn
  simp only[Jt,JA]
  cases hl:Qg M t with
  | none=>simp only[Kx]; exact Qn1 hn'.2
  | some o =>
   simp only[Kx]
   rw[Qn1 (M:=J0 M t) hn'.2]
   congr 1
   exact Va fun j hj=>by rw[Qs0 fun(e:j=t)=>hn'.1 (by rw[←e]; exact hj)]; cases Qg M j<;>rfl
theorem Qa7{f:Nat→Option Ob}{id:Nat}:∀{ids:List Nat},Qpf (ids.map fun i=>(i,f i)) id=if id∈ids then some (f id)else none
 | []=>rfl
 | k::l=>by
  simp only[QR,Qpf]
  cases hb:Nat.beq k id with
  | true =>
   have:=Nat.eq_of_beq_eq_true hb
   subst this
   simp
  | false =>
   have hne:id≠k:=fun e=>by simp_all
   simp only[cond_false,Qa7 (ids:=l),QX,hne,false_or]
section
variable {P:Program} {Y:TX} {X:Cx} {β:Nat→Nat} {ρ:Nat→Value} {a:Act} {w:World} {ops:Array Oper} {Q:Exit→Act→World→Prop} {o:Oper}
theorem Jkj(hG:Ur Y.gl (okN X) X.w)(hr:X.res=[])(hp:X.pin=none){names:List Nat}{Zs Mb:List (Nat×Ob)}{acc:List EC}{E:Nat→Bool}{B Ve:List En}{i:Nat}{g:EC}{tch ro bs pr:List Nat}{S1:XS}
  (h:Rel X β ρ ⟨L1 E acc 0++B,Bk names Zs acc E++Mb⟩ a w) (hg:acc[i]?=some g) (hi:E i=false) (hnn:names.Nodup) (hnd:(tch++ro++bs).Nodup) (hsub:∀id∈tch++ro++bs,id∈names)
  (hearly:∀id∈tch++ro,∀(j:Nat) g',acc[j]?=some g'→j<i→Km id g'=true→E j=true) (hlate:∀id∈tch++ro++bs,∀(j:Nat) g',acc[j]?=some g'→i<j→Km id g'=true→E j=false)
  (hbs:∀id∈bs,Y0 E id acc 0 (Qg Zs id)=none) (hVe:∀e∈Ve,e∈L1 E acc 0++B) (hups:g.ups=(tch++bs).map fun id=>(id,Qg S1.mem id)) (hgd:g.has=true→∃cs,(⟨g.d,cs,g.av⟩:En)∈S1.env∧cs=[]) (hod:∀d,o.dst=some d→d=g.d)
  (hnt:Wo ((tch.filterMap fun id=>Kx id (Y0 Hd id (acc.take i) 0 (Qg Zs id)))++ro.filterMap fun id=>Kx id (Y0 Hd id (acc.take i) 0 (Qg Zs id)))=true)
  (hF:∀e∈L1 E acc 0++B,(∀i∈Jd e.av,i∈pr)∧∀d,o.dst=some d→e.t≠d∧∀c∈e.cs,c.1≠d) (hFm:∀id∈Je (((names.filter fun j=>!Yi (tch++ro++bs) j).filterMap fun id=>Kx id (Y0 E id acc 0 (Qg Zs id)))++Mb),id∈pr)
  (hstep:∀(X1:Cx) (Q1:Exit→Act→World→Prop),X1.n=X.n→X1.res=[]→X1.pin=none→Ur Y.gl (okN X1) X1.w→Rel X1 β ρ ⟨Ve,(tch.filterMap fun id=>Kx id (Y0 Hd id (acc.take i) 0 (Qg Zs id)))++ro.filterMap fun id=>Kx id (Y0 Hd id (acc.take i) 0 (Qg Zs id))⟩ a w→(∀β' ρ' a' w',agP pr β β' ρ ρ'→Rel X1 β' ρ' ⟨S1.env,S1.mem++(ro.filterMap fun id=>Kx id (Y0 Hd id (acc.take i) 0 (Qg Zs id)))⟩ a' w'→Q1 .normal a' w')→wpList P ops Q1 [o] a w)
  (H:∀β' ρ' a' w',agP pr β β' ρ ρ'→Rel X β' ρ' ⟨L1 (Qh8 E i) acc 0++B,Bk names Zs acc (Qh8 E i)++Mb⟩ a' w'→Q .normal a' w'):wpList P ops Q [o] a w:=by
 have hpart:=Jgg hnd hnn hsub
 have hnow:∀id∈tch++ro,Y0 E id acc 0 (Qg Zs id)=Y0 Hd id (acc.take i) 0 (Qg Zs id):=fun id hm=>Jkg hg hi (hearly id hm) (hlate id (List.mem_append_left _ hm))
 have hT:(tch.filterMap fun id=>Kx id (Y0 E id acc 0 (Qg Zs id)))=tch.filterMap fun id=>Kx id (Y0 Hd id (acc.take i) 0 (Qg Zs id)):=(Va fun id hm=>by rw[hnow id (List.mem_append_left _ hm)])
 have hR:(ro.filterMap fun id=>Kx id (Y0 E id acc 0 (Qg Zs id)))=ro.filterMap fun id=>Kx id (Y0 Hd id (acc.take i) 0 (Qg Zs id)):=(Va fun id hm=>by rw[hnow id (List.mem_append_right _ hm)])
 have hB0:(bs.filterMap fun id=>Kx id (Y0 E id acc 0 (Qg Zs id)))=[]:=by
  rw[ZW]
  intro id hm
  rw[hbs id hm]; rfl
 have hpm:(Bk names Zs acc E++Mb).Perm ((tch.filterMap fun id=>Kx id (Y0 Hd id (acc.take i) 0 (Qg Zs id)))++(ro.filterMap fun id=>Kx id (Y0 Hd id (acc.take i) 0 (Qg Zs id)))++(((names.filter fun j=>!Yi (tch++ro++bs) j).filterMap fun id=>Kx id (Y0 E id acc 0 (Qg Zs id)))++Mb)):=by
  have h1:=hpart.filterMap fun id=>Kx id (Y0 E id acc 0 (Qg Zs id))
  rw[JQ,JQ,JQ,hT,hR,hB0,QG]at h1
  rw[←List.append_assoc]
  exact h1.append_right Mb
 have h2:Rel X β ρ ⟨Ve++(L1 E acc 0++B),_⟩ a w:=Rel.less (Rel.permM h hpm) fun e he=>by
  grind
 refine Jkf hG hr hp h2 hnt hF hFm hstep fun β' ρ' a' w' hag hR1=>H β' ρ' a' w' hag ?_
 have htc:∀id,Km id g=decide (id∈tch++bs):=fun id=>by
  unfold Km
  rw[hups,Qa7]
  by_cases hm:id∈tch++bs
  ·rw[if_pos hm]; simp[H5,hm]
  simp_all [if_neg,H5]
 have hup:∀id∈tch++bs,Y0 (Qh8 E i) id acc 0 (Qg Zs id)=Qg S1.mem id:=fun id hm=>by
  have hm3:id∈tch++ro++bs:=by
   grind
  rw[Jkh hg hi (hlate id hm3)]
  unfold upC
  rw[hups,Qa7,if_pos hm]
 have hoff:∀id,id∉tch++bs→Y0 (Qh8 E i) id acc 0 (Qg Zs id)=Y0 E id acc 0 (Qg Zs id):=fun id hm=>Jki hg (by rw[htc]; simpa using hm)
 have hnd2:=List.nodup_append.1 hnd
 have hnd3:=List.nodup_append.1 hnd2.1
 have hndtb:(tch++bs).Nodup:=by
  rw[List.nodup_append]
  grind
 have hpm2:(Bk names Zs acc (Qh8 E i)++Mb).Perm ((Jt S1.mem (tch++bs)).2++(ro.filterMap fun id=>Kx id (Y0 Hd id (acc.take i) 0 (Qg Zs id)))++(((names.filter fun j=>!Yi (tch++ro++bs) j).filterMap fun id=>Kx id (Y0 E id acc 0 (Qg Zs id)))++Mb)):=by
  have h1:=hpart.filterMap fun id=>Kx id (Y0 (Qh8 E i) id acc 0 (Qg Zs id))
  rw[JQ,JQ,JQ]at h1
  have e1:((tch.filterMap fun id=>Kx id (Y0 (Qh8 E i) id acc 0 (Qg Zs id)))++(bs.filterMap fun id=>Kx id (Y0 (Qh8 E i) id acc 0 (Qg Zs id))))=(Jt S1.mem (tch++bs)).2:=by
   rw[Qn1 hndtb,←JQ]
   grind [Va,id]
  have e2:(ro.filterMap fun id=>Kx id (Y0 (Qh8 E i) id acc 0 (Qg Zs id)))=(ro.filterMap fun id=>Kx id (Y0 Hd id (acc.take i) 0 (Qg Zs id))):=by
   rw[←hR]
   refine Va fun id hm=>by
    rw[hoff id fun hm2=>?_]
    grind
  have e3:((names.filter fun j=>!Yi (tch++ro++bs) j).filterMap fun id=>Kx id (Y0 (Qh8 E i) id acc 0 (Qg Zs id)))=(names.filter fun j=>!Yi (tch++ro++bs) j).filterMap fun id=>Kx id (Y0 E id acc 0 (Qg Zs id)):=by
   refine Va fun id hm=>by
    rw[hoff id fun hm2=>?_]
    have h3:=(QN.1 hm).2
    grind
  rw[e2,e3]at h1
  rw[←e1,←List.append_assoc]
  refine(h1.append_right Mb).trans ?_
  refine List.Perm.append_right _ (List.Perm.append_right _ ?_)
  rw[List.append_assoc,List.append_assoc]
  exact List.Perm.append_left _ JG
 have hsp:(S1.mem++(ro.filterMap fun id=>Kx id (Y0 Hd id (acc.take i) 0 (Qg Zs id)))++(((names.filter fun j=>!Yi (tch++ro++bs) j).filterMap fun id=>Kx id (Y0 E id acc 0 (Qg Zs id)))++Mb)).Perm ((Jt S1.mem (tch++bs)).1++((Jt S1.mem (tch++bs)).2++(ro.filterMap fun id=>Kx id (Y0 Hd id (acc.take i) 0 (Qg Zs id)))++(((names.filter fun j=>!Yi (tch++ro++bs) j).filterMap fun id=>Kx id (Y0 E id acc 0 (Qg Zs id)))++Mb))):=by
  have h1:=(K1 (tch++bs) S1.mem).symm.trans JG
  have h3:=(h1.append_right (ro.filterMap fun id=>Kx id (Y0 Hd id (acc.take i) 0 (Qg Zs id)))).append_right (((names.filter fun j=>!Yi (tch++ro++bs) j).filterMap fun id=>Kx id (Y0 E id acc 0 (Qg Zs id)))++Mb)
  grind
 have hR2:=Rel.permM hR1 hsp
 have hR3:Rel X β' ρ' ⟨S1.env++(L1 E acc 0++B),(Jt S1.mem (tch++bs)).2++(ro.filterMap fun id=>Kx id (Y0 Hd id (acc.take i) 0 (Qg Zs id)))++(((names.filter fun j=>!Yi (tch++ro++bs) j).filterMap fun id=>Kx id (Y0 E id acc 0 (Qg Zs id)))++Mb)⟩ a' w':=Sb.subO hR2 ((List.sublist_append_right _ _).map _)
 refine Rel.less (Rel.permM hR3 hpm2.symm) fun e he=>?_
 rcases QZ.1 he with he | he
 ·obtain⟨k,g',q1,q2,q3,rfl⟩:=Ql6 he
  rw[QW]at q2
  by_cases hki:k=i
  ·grind
  ·simp only[Qh8]at q2
   rw[show(k==i)=false by simp; omega,KW]at q2
   exact List.mem_append_right _ (List.mem_append_left _ (Q0f q1 (by rw[QW]; exact q2) q3))
 grind
end
end Gx

/- A region of open order by ordinary steps: the interpreter. -/
namespace Gx
open Go Go.RowKit Gd
set_option linter.unusedVariables false
set_option linter.unusedSimpArgs false
theorem Qxo:∀{acc:List EC} {t:Nat} {v:AV},Qlv acc t=some v→∃g∈acc,g.d=t∧g.has=true∧g.av=v
 | [],t,v,h=>by simp[Qlv]at h
 | g::l,t,v,h=>by
  simp only[Qlv]at h
  cases hb:(Nat.beq g.d t&&g.has)with
  | true =>
   rw[hb]at h
   simp_all
  | false =>
   rw[hb]at h
   obtain⟨g',h1,h2⟩:=Qxo h
   grind
theorem Qa8{l0:List Oper}{ds:List Nat}{i:Nat}{acc:List EC}{B:List En}:∀{ts:List Nat} {e:En},e∈Qsq l0 ds i acc B ts →
  (e.cs=[]∧Qlv acc e.t=some e.av∧Jbq l0 i (ds.idxOf e.t)=true)∨e∈B
 | [],e,h=>by
  grind [Ql2,Qsq]
 | t::ts,e,h=>by
  simp only[Qsq]at h
  split at h
  ·rename_i v hv
   cases hp:Jbq l0 i (ds.idxOf t)with
   | true =>
    rw[hp]at h
    rcases QX.1 h with rfl | h
    ·grind
    ·exact Qa8 h
   | false=>rw[hp]at h; exact Qa8 h
  ·cases hb:Qo5 ds t with
   | true =>
    rw[hb]at h
    simp only[cond_true]at h
    split at h
    ·rename_i t' v he
     obtain⟨h1,h2⟩:=Zw he
     rcases QX.1 h with rfl | h
     ·exact .inr h1
     ·exact Qa8 h
    ·exact Qa8 h
   | false=>rw[hb]at h; exact Qa8 h
theorem Ir{l m:List Nat}(h:Qd6 l m=true){x:Nat}(h1:x∈l)(h2:x∈m):False:=by
 have:=QP.1 h x h1
 rw[Ql3 h2]at this; cases this
section
variable {R:Type} (Y:TX) (K:List Con) (n:Nat) (l0:List Oper) (ds:List Nat) (Zs:List (Nat×Ob)) (B:List En) (prA:List Nat)
def TrC:List HD→List Oper→Nat→List EC→List EC→Prop
 | [],[],_,_,[]=>True
 | hc::hs,o::l,i,acc,g::acc2=>(∃S1,Y7 (R:=XS) Y K n l0 hc.h [o] (Qsr l0 ds Zs B prA hc o i acc) some=some S1∧Qj2 n ds Zs hc o i acc S1=some g)∧TrC hs l (i+1) (acc++[g]) acc2
 | _,_,_,_,_=>False
end
section
variable {R:Type} {r:R} {Y:TX} {K:List Con} {n:Nat} {l0:List Oper} {ds:List Nat} {Zs:List (Nat×Ob)} {B:List En} {prA:List Nat}
theorem Qtl{acc:List EC}{t:Nat}{b:Bool}(h:Qlv acc t=some (.d .bool b)):Q35 acc t b=acc:=by
 induction acc with
 | nil=>rfl
 | cons g l ih =>
  simp only[Qlv]at h
  simp only[Q35]
  cases hb:(Nat.beq g.d t&&g.has)with
  | true =>
   rw[hb]at h
   simp only[cond_true,Option.some.injEq]at h
   obtain⟨gd,gv,gh,gu⟩:=g
   grind
  | false =>
   rw[hb]at h
   grind
theorem Qrf:∀{ht:HT} {l:List Oper} {i:Nat} {hs:List HD} {acc:List EC} {k:Hn→List HD→List EC→Option R},Qss Y K n l0 ds Zs B prA ht l i hs acc k=some r →
  ∃h hs2 acc2,k h (hs++hs2) (acc++acc2)=some r∧TrC Y K n l0 ds Zs B prA hs2 l i acc acc2∧∀x∈Xr hs2,x∈Dl ht
 | .tl h,[],i,hs,acc,k,hr=>⟨h,[],[],by grind [Qss],trivial,by simp[Xr]⟩
 | .tl h,_::_,i,hs,acc,k,hr=>by simp[Qss]at hr
 | .op hc t,[],i,hs,acc,k,hr=>by simp[Qss]at hr
 | .op hc t,o::l,i,hs,acc,k,hr=>by
  simp only[Qss]at hr
  obtain⟨S1,h1,h2⟩:=Qsx hr
  split at h1
  ·rename_i g hg
   obtain⟨h,hs2,acc2,h3,h4,h5⟩:=Qrf h1
   refine⟨h,hc::hs2,g::acc2,by simpa using h3,⟨⟨S1,h2,hg⟩,h4⟩,fun x hx=>?_⟩
   rcases QZ.1 hx with hx | hx
   ·exact List.mem_append_left _ hx
   ·exact List.mem_append_right _ (h5 x hx)
  ·cases h1
 | .so t a b,l,i,hs,acc,k,hr=>by
  simp only[Qss]at hr
  split at hr
  ·rename_i v hv
   cases v with
   | true =>
    rw[if_pos rfl,Qtl hv]at hr
    obtain⟨h,hs2,acc2,h3,h4,h5⟩:=Qrf hr
    exact⟨h,hs2,acc2,h3,h4,fun x hx=>List.mem_append_left _ (h5 x hx)⟩
   | false =>
    rw[if_neg (by simp),Qtl hv]at hr
    obtain⟨h,hs2,acc2,h3,h4,h5⟩:=Qrf hr
    exact⟨h,hs2,acc2,h3,h4,fun x hx=>List.mem_append_right _ (h5 x hx)⟩
  ·cases hr
theorem TrC.get:∀{hs:List HD} {l:List Oper} {i:Nat} {acc acc2:List EC},TrC Y K n l0 ds Zs B prA hs l i acc acc2→acc2.length=l.length∧hs.length=l.length∧∀(j:Nat) o,l[j]?=some o→∃g hc S1,acc2[j]?=some g∧hs[j]?=some hc ∧
  Y7 (R:=XS) Y K n l0 hc.h [o] (Qsr l0 ds Zs B prA hc o (i+j) (acc++acc2.take j)) some=some S1∧Qj2 n ds Zs hc o (i+j) (acc++acc2.take j) S1=some g
 | [],[],i,acc,[],_=>⟨rfl,rfl,by simp⟩
 | [],[],i,acc,_::_,h=>h.elim
 | [],_::_,i,acc,_,h=>by simp[TrC]at h
 | _::_,[],i,acc,_,h=>by simp[TrC]at h
 | _::_,_::_,i,acc,[],h=>by simp[TrC]at h
 | hc::hs,o::l,i,acc,g::acc2,h=>by
  obtain⟨⟨S1,q1,q2⟩,h0⟩:=h
  obtain⟨h2,h2',h3⟩:=TrC.get h0
  refine⟨by simp[h2],by simp[h2'],fun j o' ho=>?_⟩
  cases j with
  | zero =>
   grind
  | succ j =>
   grind
end
end Gx

/- A region of open order by ordinary steps. -/
namespace Gx
open Go Go.RowKit Gd
set_option linter.unusedVariables false
set_option linter.unusedSimpArgs false
theorem Oa{n:Nat}{ds:List Nat}{Zs:List (Nat×Ob)}{hc:HD}{o:Oper}{i:Nat}{acc:List EC}{S1:XS}{g:EC}(h:Qj2 n ds Zs hc o i acc S1=some g) :
  Wo (Qi5 hc.tch Zs acc++Qi5 hc.ro Zs acc)=true∧Hi hc.nm (Je S1.mem)=true∧(g.ups=(hc.tch++hc.bs).map fun id=>(id,Qg S1.mem id))∧ds.getD i 0=g.d∧Hi hc.nm (Jd g.av)=true∧(∀d,o.dst=some d→d=g.d∧d<n)∧(g.has=true→∃cs,(⟨g.d,cs,g.av⟩:En)∈S1.env∧cs=[])∧(o.dst=none→n≤1000000000→n≤g.d):=by
 unfold Qj2 at h
 obtain⟨hb,h⟩:=bvT h
 simp only[QQ]at hb
 split at h
 ·rename_i d hd
  split at h
  ·rename_i t av hl
   obtain⟨hb2,h⟩:=bvT h
   simp only[QQ]at hb2
   simp only[Option.some.injEq]at h
   subst h
   obtain⟨hm,ht⟩:=Zw hl
   simp_all
  ·cases h
 ·rename_i hd
  obtain⟨hb2,h⟩:=bvT h
  simp only[Option.some.injEq]at h
  subst h
  exact⟨hb.1,hb.2,rfl,Nat.eq_of_beq_eq_true hb2,(by trivial),(fun d' hd'=>by rw[hd]at hd'; cases hd'),(fun h=>by cases h),fun _ hn=>by grind⟩
theorem Qfo:∀{l m:List (Nat×Ob)} {i:Nat},i∈Je (l++m)→i∈Je l∨i∈Je m
 | [],m,i,h=>.inr h
 | (k,ob)::l,m,i,h=>by
  have key:∀{xs:List Nat},i∈xs++Je (l++m)→i∈xs++Je l∨i∈Je m:=fun {xs} h=>by
   rcases QZ.1 h with h | h
   ·grind
   ·exact(Qfo h).imp (List.mem_append_right _) id
  cases ob with
  | var t c=>grind [Jd,Je,id]
  | mapC a b xs hole =>
   cases hole with
   | none=>exact key (xs:=[k]) (by simpa[Je]using h) |>.imp (by simp[Je]) id
   | some q=>exact key (xs:=[k,q.2]) (by grind [Je]) |>.imp (by simp[Je]) id
  | mapE k1 v1 xs1 key1 j=>exact key (xs:=[k,j]) (by grind [Je]) |>.imp (by simp[Je]) id
  | _=>exact key (xs:=[k]) (by simpa[Je]using h) |>.imp (by simp[Je]) id
theorem Qtm{f:Nat→Option Ob}{i:Nat}:∀{ids:List Nat},i∈Je (ids.filterMap fun id=>Kx id (f id))→∃id∈ids,∃ob,f id=some ob∧i∈Je [(id,ob)]
 | [],h=>by cases h
 | id::ids,h=>by
  simp only[JA]at h
  cases hf:f id with
  | none =>
   rw[hf]at h
   obtain⟨id',h1,ob,h2,h3⟩:=Qtm (ids:=ids) h
   grind
  | some ob =>
   rw[hf]at h
   rcases Qfo (l:=[(id,ob)]) h with h | h
   ·grind
   ·obtain⟨id',h1,ob',h2,h3⟩:=Qtm (ids:=ids) h
    grind
theorem Qxp{M:List (Nat×Ob)}{id i:Nat}{ob:Ob}:Qg M id=some ob→i∈Je [(id,ob)]→i∈Je M:=by
 intro h hi
 obtain⟨l1,l2,e,w1,w2⟩:=Jk h
 rw[e]
 clear e h w1 w2
 induction l1 with
 | nil =>
  have key:∀{xs ys:List Nat},i∈xs++[]→i∈xs++ys:=fun h=>List.mem_append_left _ (by simpa using h)
  cases ob with
  | var t c=>have:=key (xs:=id::Jd c) (ys:=Je l2) (by grind [Je]); grind [Je]
  | mapC a b xs hole =>
   cases hole with
   | none=>have:=key (xs:=[id]) (ys:=Je l2) (by simp_all [Je]); simp_all [Je]
   | some q=>have:=key (xs:=[id,q.2]) (ys:=Je l2) (by grind [Je]); grind [Je]
  | mapE k1 v1 xs1 key1 j=>have:=key (xs:=[id,j]) (ys:=Je l2) (by grind [Je]); grind [Je]
  | _=>have:=key (xs:=[id]) (ys:=Je l2) (by simpa[Je]using hi); grind [Je]
 | cons q l ih =>
  obtain⟨k,x⟩:=q
  cases x with
  | var t c=>grind [Je,List.mem_append_right]
  | mapC a b xs hole =>
   cases hole with
   | none=>simp_all [QF,Je]
   | some q=>grind [Je]
  | mapE k1 v1 xs1 key1 j=>grind [Je]
  | _=>grind [Je]
theorem Q4x{E:Nat→Bool}{id:Nat}{ob:Ob}:∀{l:List EC} {j:Nat} {c:Option Ob},Y0 E id l j c=some ob→c=some ob∨∃(k:Nat) (g:EC),l[k]?=some g∧E (j+k)=true∧Qpf g.ups id=some (some ob)
 | [],j,c,h=>.inl h
 | g0::l,j,c,h=>by
  simp only[Y0]at h
  rcases Q4x h with h1 | ⟨k,g,h1,h2,h3⟩
  ·cases hE:E j with
   | false=>rw[hE]at h1; exact .inl h1
   | true =>
    rw[hE]at h1
    simp only[cond_true,upC]at h1
    cases hl:Qpf g0.ups id with
    | none=>rw[hl]at h1; exact .inl h1
    | some x=>rw[hl]at h1; simp only at h1; subst h1; exact .inr ⟨0,g0,rfl,hE,hl⟩
  ·exact .inr ⟨k+1,g,by simpa using h1,by rw[show j+(k+1)=j+1+k by omega]; exact h2,h3⟩
end Gx

/- A region of open order by ordinary steps: sound. -/
namespace Gx
open Go Go.RowKit Gd
set_option linter.unusedVariables false
set_option linter.unusedSimpArgs false
theorem Qxq:∀{hs:List HD} {i:Nat},(∃hc∈hs,i∈hc.bs)→i∈Xr hs
 | [],i,⟨_,h,_⟩=>by cases h
 | h::l,i,⟨hc,hm,hi⟩=>by
  rcases QX.1 hm with rfl | hm
  ·exact List.mem_append_left _ hi
  ·exact List.mem_append_right _ (Qxq ⟨hc,hm,hi⟩)
theorem Q9w{l0:List Oper}{hs:List HD}(h:Jwq l0 hs=true){i j:Nat}{hi hj:HD}(h1:hs[i]?=some hi)(h2:hs[j]?=some hj)(hji:j<i):Qlw l0 i j hi hj=true:=by
 have hil:=(List.getElem?_eq_some_iff.1 h1).1
 have:=QP.1 (QP.1 h i (JH.2 hil)) j (JH.2 hji)
 rw[h1,h2]at this
 exact this
theorem Jwz{l0:List Oper}{hs:List HD}(h:nmB l0 hs=true){i j:Nat}{hi hj:HD}(h1:hs[i]?=some hi)(h2:hs[j]?=some hj)(hji:i≠j):Qd6 hi.bs hj.nm=true∨Bd l0 l0.length j i=true:=by
 have hil:=(List.getElem?_eq_some_iff.1 h1).1
 have hjl:=(List.getElem?_eq_some_iff.1 h2).1
 have:=QP.1 (QP.1 h i (JH.2 hil)) j (JH.2 hjl)
 rw[h1,h2]at this
 simp_all
theorem Qxr{m:List (Nat×Ob)}{i:Nat}:∀{l:List (Nat×Ob)},i∈Je l→i∈Je (l++m)
 | [],h=>by cases h
 | (k,x)::l,h=>by
  have key:∀{xs:List Nat},i∈xs++Je l→i∈xs++Je (l++m):=fun {xs} h=>by
   rcases QZ.1 h with h | h
   ·grind
   ·exact List.mem_append_right _ (Qxr h)
  cases x with
  | var t c=>have:=key (xs:=k::Jd c) (by grind [Je]); grind [Je]
  | mapC a b xs hole =>
   cases hole with
   | none=>have:=key (xs:=[k]) (by simpa[Je]using h); simp_all [Je]
   | some q=>have:=key (xs:=[k,q.2]) (by grind [Je]); grind [Je]
  | mapE k1 v1 xs1 key1 j=>have:=key (xs:=[k,j]) (by grind [Je]); grind [Je]
  | _=>have:=key (xs:=[k]) (by simpa[Je]using h); grind [Je]
theorem Qtn{m:List (Nat×Ob)}{i:Nat}(h:i∈Je m):∀{l:List (Nat×Ob)},i∈Je (l++m)
 | []=>h
 | (k,x)::l=>by
  have ih:=Qtn h (l:=l)
  cases x with
  | var t c=>grind [Je,List.mem_append_right]
  | mapC a b xs hole =>
   cases hole with
   | none=>simp_all [QF,Je]
   | some q=>grind [Je]
  | mapE k1 v1 xs1 key1 j=>grind [Je]
  | _=>grind [Je]
theorem Qto{E E':Nat→Bool}:∀{acc:List EC} {j:Nat},(∀k,k<acc.length→E (j+k)=E' (j+k))→L1 E acc j=L1 E' acc j
 | [],_,_=>rfl
 | g::l,j,h=>by
  have h0:=h 0 (by simp)
  rw[JS]at h0
  have ih:L1 E l (j+1)=L1 E' l (j+1):=Qto fun k hk=>by
   have:=h (k+1) (by grind)
   rwa[show j+(k+1)=j+1+k by omega]at this
  grind [L1]
theorem Qxs:∀{acc:List EC} {j:Nat},L1 (fun _=>false) acc j=[]
 | [],_=>rfl
 | g::l,j=>by simp only[L1,Bool.false_and,cond_false]; exact Qxs
theorem Jgh{Zs:List (Nat×Ob)}{bs:List Nat}{acc:List EC}(hN:(Vs Zs++bs).Nodup):Bk (Vs Zs++bs) Zs acc (fun _=>false)=Zs:=by
 unfold Bk
 have h0:∀id c,Y0 (fun _=>false) id acc 0 c=c:=fun id c=>N9 fun _ _ _ _=>rfl
 obtain⟨n1,n2,n3⟩:=List.nodup_append.1 hN
 rw[JQ]
 have e2:(bs.filterMap fun id=>Kx id (Y0 (fun _=>false) id acc 0 (Qg Zs id)))=[]:=by
  rw[ZW]
  intro d hd
  rw[h0]
  cases hl:Qg Zs d with
  | none=>rfl
  | some ob=>exact absurd rfl (n3 d (Qfm (by rw[hl]; rfl)) d hd)
 rw[e2,QG]
 unfold Vs
 rw[List.filterMap_map]
 simp_all [Va,KK,Function.comp,Qj4,Kx]
section
variable {P:Program} {Y:TX} {X:Cx} {K:List Con} {n:Nat} {l0:List Oper} {ds:List Nat} {Zs Mb:List (Nat×Ob)} {B:List En} {prA prB:List Nat} {R:Type} {r:R} {β:Nat→Nat} {ρ:Nat→Value} {a:Act} {w:World}
theorem Q9x(hT:Qy P Y.T)(hmix:P.follows .mixedOrders=true)(hK:KsX P Y X K)(hX:X.n=n)(hr:X.res=[])(hp:X.pin=none){ht:HT}{p:Nat}(h:Rel X β ρ ⟨B,Zs++Mb⟩ a w)
  (hBt:∀e∈B,∀d∈ds,d<n→e.t≠d∧∀c∈e.cs,c.1≠d) (hBi:∀e∈B,∀i∈Jd e.av,i∈prB) (hMi:∀i∈Je (Zs++Mb),i∈prB)
  (hb:Jb7 l0 p ds=true) {k:Hn→List HD→List EC→Option R} (hs:Qss Y K n l0 ds Zs B prA ht (l0.take p) 0 [] [] k=some r)
  (hch:∀h hs0 acc,k h hs0 acc=some r→Jpb l0 (Vs Zs) prB prA hs0=true) (hpA:∀i∈prB,i∈prA) {id:Nat} {Q:Exit→Act→World→Prop}
  (H:∀β' ρ' a' w' h hs0 acc,k h hs0 acc=some r→(∀(x:Nat),(∀hc∈hs0,x∉hc.wr)→∀g∈acc,Km x g=false)→(∀x∈Xr hs0,x∈Dl ht)→agP prB β β' ρ ρ'→Rel X β' ρ' ⟨L1 Hd acc 0++B,Bk (Vs Zs++Xr hs0) Zs acc Hd++Mb⟩ a' w'→wpList P ⟨l0⟩ Q (l0.drop p) a' w'):(Code.region id ⟨l0⟩ true).wp P Q a w:=by
 unfold Jb7 at hb
 simp only[QQ]at hb
 obtain⟨⟨⟨⟨hple,hlen⟩,hback⟩,hfin⟩,hndB⟩:=hb
 have hnd:=Qws hndB
 have hpl:=QV hple
 have hdl:=Nat.eq_of_beq_eq_true hlen
 obtain⟨hn,hs0,acc,hk,htr,hbT⟩:=Qrf hs
 simp only[QE]at hk
 have hchk:=hch _ _ _ hk
 unfold Jpb at hchk
 simp only[QQ]at hchk
 obtain⟨⟨⟨⟨⟨hcf,hnm⟩,hNb⟩,hapB⟩,hNAb⟩,hall0⟩:=hchk
 have hN:=Qa6 hNb
 have hNA:∀i∈Vs Zs++Xr hs0,i∈prA:=fun i hi=>At hNAb i hi
 have hprB:∀i∈prB,i∈prA∧i∉Xr hs0:=fun i hi=>⟨hpA i hi,fun h2=>Ir hapB hi h2⟩
 have hal0:∀hc∈hs0,Om hc.al=true∧Hi (Vs Zs++Xr hs0) hc.al=true∧Hi prA hc.nm=true:=fun hc hm=>by
  have:=QP.1 hall0 hc hm
  grind
 have hNm:∀hc∈hs0,∀i∈hc.nm,i∈prA:=fun hc hm i hi=>At (hal0 hc hm).2.2 i hi
 have hal:∀hc∈hs0,(hc.tch++hc.ro++hc.bs).Nodup∧∀i∈hc.tch++hc.ro++hc.bs,i∈Vs Zs++Xr hs0:=fun hc hm=>⟨Qa6 (hal0 hc hm).1,fun i hi=>At (hal0 hc hm).2.1 i hi⟩
 obtain⟨hal1,hal2,hall⟩:=htr.get
 have hap:acc.length=p:=by rw[hal1,List.length_take]; omega
 simp only[QE,QW]at hall
 have hget:∀(i:Nat) o,i<p→l0[i]?=some o→∃g hc S1,acc[i]?=some g∧hs0[i]?=some hc∧Y7 (R:=XS) Y K n l0 hc.h [o] (Qsr l0 ds Zs B prA hc o i (acc.take i)) some=some S1∧Qj2 n ds Zs hc o i (acc.take i) S1=some g:=fun i o hi ho=>hall i o (by rw[JV,if_pos hi]; exact ho)
 have hof:∀(j:Nat) g,acc[j]?=some g→j<p∧∃o hc S1,l0[j]?=some o∧hs0[j]?=some hc∧Qj2 n ds Zs hc o j (acc.take j) S1=some g:=fun j g hg=>by
  have hj:j<p:=by have:=(List.getElem?_eq_some_iff.1 hg).1; omega
  obtain⟨g',hc,S1,q1,q2,_,q4⟩:=hget j l0[j] hj (List.getElem?_eq_getElem (by omega))
  rw[hg]at q1; grind
 have htch:∀(j:Nat) g hc x,acc[j]?=some g→hs0[j]?=some hc→Km x g=true→x∈hc.wr:=fun j g hc x hg hh ht=>by
  obtain⟨_,o,hc',S1,_,q2,q3⟩:=hof j g hg
  rw[hh]at q2; injection q2 with q2; subst q2
  unfold Km at ht
  rw[(Oa q3).2.2.1,Qa7]at ht
  by_cases hm:x∈hc.tch++hc.bs
  ·exact hm
  simp_all [if_neg,H5]
 have hdsj:∀(j:Nat) g,acc[j]?=some g→ds[j]?=some g.d:=fun j g hg=>by
  obtain⟨hj,o,hc,S1,_,_,q3⟩:=hof j g hg
  exact Jgc (by omega) (Oa q3).2.2.2.1
 have hno:∀(x:Nat),(∀hc∈hs0,x∉hc.wr)→∀g∈acc,Km x g=false:=fun x hx g hg=>by
  grind [List.getElem?_of_mem,Km,absurd,List.mem_of_getElem?]
 refine Q9u (fun E a w=>∃β' ρ',agP prB β β' ρ ρ'∧Rel X β' ρ' ⟨L1 E acc 0++B,Bk (Vs Zs++Xr hs0) Zs acc E++Mb⟩ a w) hmix p (fun E E' a w hE ⟨β',ρ',q1,q2⟩=>⟨β',ρ',q1,?_⟩) hple hback hfin ⟨β,ρ,agP.refl _ _ _,?_⟩ (fun E i o a w Q' hip ho hcl hEi hpre ⟨β1,ρ1,hag,hR⟩ hQ=>?_) fun a' w' ⟨β',ρ',q1,q2⟩=>H β' ρ' a' w' hn hs0 acc hk hno hbT q1 q2
 ·have e1:L1 E acc 0=L1 E' acc 0:=Qto fun k hk=>by rw[QW]; grind
  have e2:Bk (Vs Zs++Xr hs0) Zs acc E=Bk (Vs Zs++Xr hs0) Zs acc E':=Va fun id _=>by
   rw[Ov (E:=E) (E':=E') fun k e hk _=>by rw[QW]; grind]
  rw[e1,e2]at q2
  exact q2
 ·rw[Qxs,Jgh hN]
  exact Sb.below h ((Below.refl _ _).drew)
 ·obtain⟨g,hc,S1,hg,hhc,hrun,hst⟩:=hget i o hip ho
  obtain⟨t1,t2,t3,t4,t5,t6,t7,t8⟩:=Oa hst
  obtain⟨al1,al2⟩:=hal hc (List.mem_of_getElem? hhc)
  have hlateB:∀j,Bd l0 l0.length j i=true→E j=false:=fun j hbj=>by
   cases hE:E j with
   | false=>rfl
   | true =>
    have:E i=true:=Qat hcl l0.length j i hbj fun o' ho' e he hb'=>hcl j o' hE ho' e he hb'
    rw[hEi]at this; cases this
  have hearB:∀j,Bd l0 l0.length i j=true→E j=true:=fun j hbj=>Qat hcl l0.length i j hbj fun o' ho' e he hb'=>by rw[ho]at ho'; grind
  have hlate:∀id∈hc.tch++hc.ro++hc.bs,∀(j:Nat) g',acc[j]?=some g'→i<j→Km id g'=true→E j=false:=fun id hm j g' hj hij ht=>by
   obtain⟨hjp,oj,hcj,S1j,p1,p2,p3⟩:=hof j g' hj
   have hw:=htch j g' hcj id hj p2 ht
   have hse:=Q9w hcf p2 hhc hij
   unfold Qlw at hse
   simp only[QQ,JB]at hse
   rcases hse.1 with⟨s1,s2⟩ | s1
   ·exfalso
    rcases QZ.1 hm with hm | hm
    ·rcases QZ.1 hm with hm | hm
     ·exact Ir s1 (List.mem_append_left _ hm:id∈hc.wr) (by
       rcases QZ.1 hw with q | q
       ·exact List.mem_append_left _ (List.mem_append_left _ q)
       ·exact List.mem_append_right _ q)
     grind [Ir]
    ·exact Ir s1 (List.mem_append_right _ hm:id∈hc.wr) (by
       rcases QZ.1 hw with q | q
       ·exact List.mem_append_left _ (List.mem_append_left _ q)
       ·exact List.mem_append_right _ q)
   grind
  have hearly:∀id∈hc.tch++hc.ro,∀(j:Nat) g',acc[j]?=some g'→j<i→Km id g'=true→E j=true:=fun id hm j g' hj hij ht=>by
   obtain⟨hjp,oj,hcj,S1j,p1,p2,p3⟩:=hof j g' hj
   have hw:=htch j g' hcj id hj p2 ht
   have hse:=Q9w hcf hhc p2 hij
   unfold Qlw at hse
   simp only[QQ,JB]at hse
   rcases hse.1 with⟨s1,s2⟩ | s1
   ·exact(Ir s1 hw (List.mem_append_left _ hm)).elim
   grind
  have hbsA:∀id∈hc.bs,id∈Xr hs0:=fun id hm=>Qxq ⟨hc,List.mem_of_getElem? hhc,hm⟩
  have hbs:∀id∈hc.bs,Y0 E id acc 0 (Qg Zs id)=none:=fun id hm=>by
   have hz:Qg Zs id=none:=by
    cases hl:Qg Zs id with
    | none=>rfl
    | some ob=>exact absurd rfl ((List.nodup_append.1 hN).2.2 id (Qfm (by rw[hl]; rfl)) id (hbsA id hm))
   rw[hz]
   refine N9 fun j g' hj ht=>?_
   rw[QW]
   rcases Nat.lt_trichotomy j i with hji | hji | hji
   ·obtain⟨hjp,oj,hcj,S1j,p1,p2,p3⟩:=hof j g' hj
    have hse:=Q9w hcf hhc p2 hji
    unfold Qlw at hse
    simp only[QQ]at hse
    grind [Ir,id]
   ·rw[hji]; exact hEi
   grind
  have hprs:∀x∈prB,x∈Qlx prA hc.bs:=fun x hx=>by
   obtain⟨q1,q2⟩:=hprB x hx
   refine QN.2 ⟨q1,?_⟩
   grind [Yi,absurd,Ql1]
  have hnmj:∀(j:Nat) g',acc[j]?=some g'→E j=true→∀hcj,hs0[j]?=some hcj→∀x∈hcj.nm,x∈Qlx prA hc.bs:=fun j g' hj hE hcj p2 x hx=>by
   refine QN.2 ⟨hNm hcj (List.mem_of_getElem? p2) x hx,?_⟩
   cases hm:Yi hc.bs x with
   | false=>rfl
   | true =>
    have hij:i≠j:=fun e=>by grind
    rcases Jwz hnm hhc p2 hij with q | q
    ·grind [Ir,Ql1]
    grind
  refine Jkj hK.2 hr hp (S1:=S1) (tch:=hc.tch) (ro:=hc.ro) (bs:=hc.bs) (pr:=Qlx prA hc.bs) (Ve:=Qsq l0 ds i (acc.take i) B (Q9j o++gTs l0 o)) hR hg hEi hN al1 al2 hearly hlate hbs (fun e he=>?_) t3 t7 (fun d hd=>(t6 d hd).1) t1 (fun e he=>?_) (fun x hx=>?_) (fun X1 Q1 x1 x2 x3 x4 x5 x6=>?_) fun β' ρ' a' w' y1 y2=>hQ a' w' ⟨β',ρ',agP.trans hag fun x hx=>y1 x (hprs x hx),y2⟩
  ·rcases Qa8 he with⟨v1,v2,v3⟩ | v1
   ·obtain⟨g',m1,m2,m3,m4⟩:=Qxo v2
    obtain⟨j,hj⟩:=List.getElem?_of_mem m1
    rw[JV]at hj
    split at hj
    ·rename_i hji
     have hd':=hdsj j g' hj
     have hix:ds.idxOf e.t=j:=by
      have hjl:=(List.getElem?_eq_some_iff.1 hd').1
      have:=hnd.idxOf_getElem j hjl
      rw[(List.getElem?_eq_some_iff.1 hd').2,m2]at this
      exact this
     rw[hix]at v3
     have hEj:E j=true:=by
      simp only[Jbq,ho]at v3
      obtain⟨e',he',hb'⟩:=List.any_eq_true.1 v3
      simp only[QQ]at hb'
      rw[←Nat.eq_of_beq_eq_true hb'.2]
      grind
     refine List.mem_append_left _ ?_
     have:=Q0f (E:=E) (acc:=acc) (j:=0) (k:=j) hj (by rw[QW]; exact hEj) m3
     obtain⟨et,ecs,eav⟩:=e
     grind
    ·cases hj
   grind
  ·rcases QZ.1 he with he | he
   ·obtain⟨j,g',q1,q2,q3,rfl⟩:=Ql6 he
    rw[QW]at q2
    obtain⟨hjp,oj,hcj,S1j,p1,p2,p3⟩:=hof j g' q1
    refine⟨fun x hx=>hnmj j g' q1 q2 hcj p2 x (At (Oa p3).2.2.2.2.1 x hx),fun d hd=>⟨fun e=>?_,by simp⟩⟩
    have e1:=(t6 d hd).1
    have d1:=hdsj j g' q1
    have d2:=hdsj i g hg
    have hij:j=i:=by
     obtain⟨b1,c1⟩:=List.getElem?_eq_some_iff.1 d1
     obtain⟨b2,c2⟩:=List.getElem?_eq_some_iff.1 d2
     have a1:=hnd.idxOf_getElem j b1
     have a2:=hnd.idxOf_getElem i b2
     rw[show ds[j]=ds[i]from c1.trans (e.trans (e1.trans c2.symm))]at a1
     grind
    rw[hij,hEi]at q2; cases q2
   grind
  ·rcases Qfo hx with hx | hx
   ·obtain⟨id,h1,ob,h2,h3⟩:=Qtm hx
    rcases Q4x h2 with h6 | ⟨j,g',q1,q2,q3⟩
    ·exact hprs x (hMi x (Qxr (Qxp h6 h3)))
    ·rw[QW]at q2
     obtain⟨hjp,oj,hcj,S1j,p1,p2,p3⟩:=hof j g' q1
     refine hnmj j g' q1 q2 hcj p2 x (At (Oa p3).2.1 x ?_)
     rw[(Oa p3).2.2.1,Qa7]at q3
     split at q3
     ·exact Qxp (Option.some.inj q3) h3
     ·cases q3
   grind [Qtn]
  ·have hflat:(Qsr l0 ds Zs B prA hc o i (acc.take i)).flat=⟨Qsq l0 ds i (acc.take i) B (Q9j o++gTs l0 o),Qi5 hc.tch Zs (acc.take i)++Qi5 hc.ro Zs (acc.take i)⟩:=by
    simp only[XS.flat,Qsr,QG]
   have:=Vu hT (X:=X1) ⟨hK.1,x4⟩ (x1.trans hX) x2 (Q:=Q1) hc.h (l:=[o]) (rest:=[]) (S:=Qsr l0 ds Zs B prA hc o i (acc.take i)) (a:=a) (w:=w) (by rw[hflat]; exact x5) hrun fun β' ρ' S' a' w' k1 k2 k3=>by
    simp only[Option.some.injEq]at k1
    subst k1
    have kf:S'.fix=[]:=k2.fix
    have km:S'.fixM=Qi5 hc.ro Zs (acc.take i):=k2.fixM
    refine x6 β' ρ' a' w' k2.ag ?_
    have e:S'.flat=⟨S'.env,S'.mem++Qi5 hc.ro Zs (acc.take i)⟩:=by simp only[XS.flat,kf,km,QG]
    rw[e]at k3
    exact k3
   simpa using this
end
end Gx

/- A region of open order by ordinary steps, as the interpreter walks it. -/
namespace Gx
open Go Go.RowKit Gd
set_option linter.unusedVariables false
set_option linter.unusedSimpArgs false
theorem Qfp{M:List (Nat×Ob)}:∀{B:List En} {e:En},e∈Jfs M B→∃e0∈B,e=⟨e0.t,e0.cs,Tg M e0.av⟩
 | [],e,h=>by cases h
 | e0::l,e,h=>by
  simp only[Jfs]at h
  cases hb:Qz3 M (Qw2 e0.av)with
  | true =>
   rw[hb]at h
   rcases QX.1 h with rfl | h
   ·grind
   ·obtain⟨e1,h1,h2⟩:=Qfp h
    grind
  | false =>
   rw[hb]at h
   obtain⟨e1,h1,h2⟩:=Qfp h
   grind
theorem Jrj{α:Type}(a b c d:List α):((a++b)++(c++d)).Perm ((a++c)++(b++d)):=by
 rw[List.append_assoc,List.append_assoc]
 refine List.Perm.append_left a ?_
 rw[←List.append_assoc,←List.append_assoc]
 exact List.perm_append_comm.append_right d
theorem Qxt{E:Nat→Bool}{id:Nat}:∀{l:List EC} {j:Nat} {c:Option Ob},(∀g∈l,Km id g=false)→Y0 E id l j c=c
 | [],j,c,_=>rfl
 | g::l,j,c,h=>by
  simp only[Y0]
  rw[Q9v (h g (.head _))]
  rw[show(bif E j then c else c)=c by cases E j<;>rfl]
  exact Qxt fun g' hg=>h g' (.tail _ hg)
theorem Qfq{l m:List Nat}{Zs:List (Nat×Ob)}{acc:List EC}{E:Nat→Bool}:Bk (l++m) Zs acc E=Bk l Zs acc E++Bk m Zs acc E:=JQ
theorem Q0g{l m:List (Nat×Ob)}:Vs (l++m)=Vs l++Vs m:=QD
section
variable {P:Program} {Y:TX} {X:Cx} {K:List Con} {n:Nat} {l0:List Oper} {ds:List Nat} {R:Type} {r:R} {β:Nat→Nat} {ρ:Nat→Value} {a:Act} {w:World}
theorem Jpl{B:List En}{M Z:List (Nat×Ob)}(h:Rel X β ρ ⟨B,M++Z⟩ a w):Rel X β ρ ⟨Jfs M B++B,M++Z⟩ a w:=by
 refine Rel.ofSb h rfl fun e he=>?_
 rcases QZ.1 he with he | he
 ·obtain⟨e0,h0,rfl⟩:=Qfp he
  obtain⟨h1,h2⟩:=h.en h0
  refine⟨fun hc=>?_,h2⟩
  obtain⟨cs,q1,q2⟩:=h1 hc
  exact⟨cs,by rw[q1,Q4s],Qcs (fun id o ho=>h.mm id o (Qx ho)) q2⟩
 ·exact h.en he
theorem Q9y(hT:Qy P Y.T)(hmix:P.follows .mixedOrders=true)(hK:KsX P Y X K)(hX:X.n=n)(hr:X.res=[])(hp:X.pin=none){S:XS}(h:Rel X β ρ S.flat a w){p:Nat}{zs zf:List Nat}{ht:HT}
  (hb:Jb7 l0 p ds=true) (hfx:(ds.all fun d=>Qfh d S.fix)=true) {k:Hn→XS→Option R}
  (hs:dcI Y K n l0 p ds (Jt S.mem zs).2 (Jt S.fixM zf).2 (Jt S.mem zs).1 (Jt S.fixM zf).1 ht S (Qpe S.env (ds++Dl ht)++S.fix) k=some r) {id:Nat} {Q:Exit→Act→World→Prop}
  (H:∀(β':Nat→Nat) (ρ':Nat→Value) (S':XS) (a':Act) (w':World) (h':Hn),k h' S'=some r→Vb S S' β β' ρ ρ'→Rel X β' ρ' S'.flat a' w'→wpList P ⟨l0⟩ Q (l0.drop p) a' w'):(Code.region id ⟨l0⟩ true).wp P Q a w:=by
 have hm:=K1 zs S.mem
 have hf:=K1 zf S.fixM
 revert hs hm hf
 generalize (Jt S.mem zs).2=Z1
 generalize (Jt S.mem zs).1=M1
 generalize (Jt S.fixM zf).2=Z2
 generalize (Jt S.fixM zf).1=F1
 intro hs hm hf
 unfold dcI dcR at hs
 have hpm:S.flat.mem.Perm ((Z1++Z2)++(M1++F1)):=(hm.symm.append hf.symm).trans (Jrj Z1 M1 Z2 F1)
 have hBm:∀e∈Qpe S.env (ds++Dl ht)++S.fix,e∈S.flat.env∧∀d∈ds,e.t≠d∧∀c∈e.cs,c.1≠d:=fun e he=>by
  rcases QZ.1 he with he | he
  ·obtain⟨q1,q2⟩:=Qxn he
   exact⟨List.mem_append_left _ q1,fun d hd=>(q2 d (List.mem_append_left _ hd)).2⟩
  ·exact⟨List.mem_append_right _ he,fun d hd=>Qfk (QP.1 hfx d hd) e he⟩
 have h1:Rel X β ρ ⟨Qpe S.env (ds++Dl ht)++S.fix,(M1++F1)++(Z1++Z2)⟩ a w:=Rel.permM (Rel.less h fun e he=>(hBm e he).1) (hpm.trans JG)
 have h2:=Rel.permM (Jpl h1) (JG (l₁:=M1++F1) (l₂:=Z1++Z2))
 refine Q9x hT hmix hK hX hr hp (prB:=Tf (Qpe S.env (ds++Dl ht)++S.fix)++Je ((Z1++Z2)++(M1++F1))++S.prot) (Mb:=M1++F1) h2 (fun e he d hd _=>?_) (fun e he i hi=>?_) (fun i hi=>List.mem_append_left _ (List.mem_append_right _ hi)) hb hs
  (fun hh hs0 acc hk=>?_) (fun i hi=>List.mem_append_left _ (List.mem_append_left _ hi)) fun β' ρ' a' w' hh hs0 acc hk hno hbT hag hR=>?_
 ·rcases QZ.1 he with he | he
  ·obtain⟨e0,q1,rfl⟩:=Qfp he
   grind
  grind
 ·refine List.mem_append_left _ (List.mem_append_left _ ?_)
  rcases QZ.1 he with he | he
  ·obtain⟨e0,q1,rfl⟩:=Qfp he
   exact Q4p q1 (Ql4 hi)
  ·exact Q4p he hi
 ·have:=(bvT hk).1
  grind
 ·obtain⟨hck,hk⟩:=bvT hk
  simp only[QQ]at hck
  obtain⟨hck,hkf⟩:=hck
  have hnd:(Vs (Z1++Z2)).Nodup:=by
   unfold Jpb at hck
   simp only[QQ]at hck
   grind [List.nodup_append,Qa6]
  refine H β' ρ' _ a' w' hh hk ⟨rfl,rfl,rfl,fun i hi=>hag i (List.mem_append_right _ hi)⟩ ?_
  have e2:Bk (Vs Z2) (Z1++Z2) acc Hd=Z2:=by
   unfold Bk Vs
   rw[List.filterMap_map]
   refine(Va (f:=some) fun q hq=>?_).trans KK
   have hq2:q.1∈Vs Z2:=QK.2 ⟨q,hq,rfl⟩
   have hl:=Qj4 hnd q (List.mem_append_right _ hq)
   simp only[Function.comp,hl]
   rw[Qxt fun g hg=>hno q.1 (fun hc hm2 hw=>Ir (QP.1 hkf hc hm2) hw hq2) g hg]
   rfl
  have e1:Bk (Vs (Z1++Z2)++Xr hs0) (Z1++Z2) acc Hd=(Bk (Vs Z1) (Z1++Z2) acc Hd++Z2)++Bk (Xr hs0) (Z1++Z2) acc Hd:=by
   rw[Qfq,Q0g,Qfq,e2]
  have e3:Bk (Vs Z1++Xr hs0) (Z1++Z2) acc Hd=Bk (Vs Z1) (Z1++Z2) acc Hd++Bk (Xr hs0) (Z1++Z2) acc Hd:=Qfq
  rw[e1]at hR
  have hperm:(((Bk (Vs Z1) (Z1++Z2) acc Hd++Z2)++Bk (Xr hs0) (Z1++Z2) acc Hd)++(M1++F1)).Perm ((Bk (Vs Z1++Xr hs0) (Z1++Z2) acc Hd++M1)++S.fixM):=by
   rw[e3]
   have p1:((Bk (Vs Z1) (Z1++Z2) acc Hd++Z2)++Bk (Xr hs0) (Z1++Z2) acc Hd).Perm ((Bk (Vs Z1) (Z1++Z2) acc Hd++Bk (Xr hs0) (Z1++Z2) acc Hd)++Z2):=by
    rw[List.append_assoc,List.append_assoc]
    exact List.Perm.append_left _ JG
   exact((p1.append_right _).trans (Jrj _ _ _ _)).trans (List.Perm.append_left _ hf)
  refine Rel.less (Rel.permM hR hperm) fun e he=>?_
  rcases QZ.1 he with he | he
  ·rcases QZ.1 he with he | he
   ·grind
   grind
  ·exact List.mem_append_right _ (List.mem_append_right _ (List.mem_append_right _ he))
end
end Gx

/- Ranges over maps: what is set aside in a round; the entries that are left. -/
namespace Gx
open Go Go.RowKit Gd
set_option linter.unusedVariables false
set_option linter.unusedSimpArgs false
section
variable {P:Program} {Y:TX} {X:Cx} {β β':Nat→Nat} {ρ ρ':Nat→Value} {S S':St} {a a':Act} {w w':World} {Dx:List DF} {F:List TL}
def Qn2(X:Cx)(β:Nat→Nat)(ρ:Nat→Value)(S:St)(Dx:List DF)(F:List TL)(a:Act)(w:World):Prop :=
 Sb (fun _=>0) X [] (Dx++S.env.map (enD β ρ a)) [] (Qk β ρ S.mem++F) a w
abbrev okF(X:Cx)(β:Nat→Nat)(ρ:Nat→Value)(mem:List (Nat×Ob))(F:List TL)(w:World):Ok:=Jn X.ok X.w.heap.size (fun _=>0) [] (Qk β ρ mem++F) w
theorem Qn2.en(h:Qn2 X β ρ S Dx F a w){e:En}(he:e∈S.env):(enD β ρ a e).p (okF X β ρ S.mem F w) w:=Yf.1 h.dat _ (List.mem_append_right _ (QK.2 ⟨e,he,rfl⟩))
theorem Qn2.act(h:Qn2 X β ρ S Dx F a w){env':List En}(hs:a'.tmps.size=a.tmps.size)(hd:a'.defers=a.defers)(hr:X.res=[])
  (he:∀e∈env',(enD β ρ a' e).p (okF X β ρ S.mem F w) w):Qn2 X β ρ ⟨env',S.mem⟩ Dx F a' w :=
 {sz:=hs.trans h.sz,df:=hd.trans h.df,fr:=by rw[hr]; simp,pn:=h.pn,tm:=by simp,bel:=h.bel,
  dat:=Yf.2 fun d hd=>by
   rcases QZ.1 hd with hd | hd
   ·exact Yf.1 h.dat _ (List.mem_append_left _ hd)
   grind,
  obj:=h.obj,own:=h.own,dHH:=h.dHH,dHO:=h.dHO,dOO:=h.dOO }
theorem Qn2.en_put(h:Qn2 X β ρ S Dx F a w){d:Nat}(v:Value){e:En}(he:e∈Yu S.env d):(enD β ρ (a.put (some d) v) e).p (okF X β ρ S.mem F w) w:=by
 obtain⟨h1,h2,h3⟩:=Oe he
 have hcc:Jy (a.put (some d) v) e.cs↔Jy a e.cs:=⟨fun hc c hm=>by rw[←Vj (h3 c hm) v]; exact hc c hm,fun hc c hm=>by rw[Vj (h3 c hm) v]; exact hc c hm⟩
 refine⟨fun hc=>?_,?_⟩
 ·obtain⟨cs,h4,h5⟩:=(h.en h1).1 (hcc.1 hc)
  grind [Qlh]
 ·rw[hcc,Qlh h2]; exact(h.en h1).2
theorem Qn2.del(h:Qn2 X β ρ S Dx F a w)(hr:X.res=[]){d:Nat}(v:Value):Qn2 X β ρ ⟨Yu S.env d,S.mem⟩ Dx F (a.put (some d) v) w :=
 h.act (by simp[Act.put]) rfl hr fun e he=>h.en_put v he
theorem Qn2.put0(h:Qn2 X β ρ S Dx F a w)(hr:X.res=[]){d:Nat}(hd:okD X d=true){x:AV}{c:List Value}(hx:cr β ρ (okF X β ρ S.mem F w) w false x c):Qn2 X β ρ ⟨⟨d,[],x⟩::Yu S.env d,S.mem⟩ Dx F (a.put (some d) (x.val c)) w:=by
 refine h.act (by simp[Act.put]) rfl hr fun e he=>?_
 rcases QX.1 he with rfl | he
 ·refine⟨fun _=>⟨c,?_,hx⟩,.inl (Qf _)⟩
  rw[R5 (Qhp hd)]
  simp[Act.put,h.sz,Qr0 hd]
 ·exact h.en_put _ he
end
end Gx

/- Ranges over maps: the rounds. -/
namespace Gx
open Go Go.RowKit Gd
set_option linter.unusedVariables false
set_option linter.unusedSimpArgs false
section
section
variable {P:Program} {Y:TX} {X:Cx} {S:XS} {β β':Nat→Nat} {ρ ρ':Nat→Value} {a a':Act} {w w':World} {n N:Nat} {K:List Con}
variable {Q:Exit→Act→World→Prop} {R:Type} {r:R}
def Ex.exit:Ex→Exit
 | .n=>.normal
 | .x i=>.exit i
 | .r=>.ret
theorem Ex.beq_ok{a b:Ex}(h:Ex.beq a b=true):a=b:=by
 cases a<;>cases b<;>simp[Ex.beq]at h<;>first | rfl | (rw[h])
def COk(Q:Exit→Act→World→Prop)(X:Cx)(S0:XS)(β:Nat→Nat)(ρ:Nat→Value){R:Type}(k:Ex→XS→Option R)(r:R):Prop :=
 ∀(e:Ex) (β':Nat→Nat) (ρ':Nat→Value) (S':XS) (a':Act) (w':World),k e S'=some r→Vb S0 S' β β' ρ ρ'→Rel X β' ρ' S'.flat a' w'→Q e.exit a' w'
theorem COk.after{k:Ex→XS→Option R}(h:COk Q X S β ρ k r){S1:XS}{β1:Nat→Nat}{ρ1:Nat→Value}(hk:Vb S S1 β β1 ρ ρ1):COk Q X S1 β1 ρ1 k r :=
 fun e β' ρ' S' a' w' h1 h2 h3=>h e β' ρ' S' a' w' h1 (hk.trans h2) h3
theorem Qn3{k:Ex→XS→Option R}(ks ms:List Nat):∀{l:Exs} {e:Ex} {S':XS} {x:Q9e l},inj l e S'=some x→Q9f S ks ms k l x=some r →
  S'.fix=(S.ent ks ms).fix∧S'.fixM=(S.ent ks ms).fixM∧S'.prot=(S.ent ks ms).prot→Rel X β ρ S'.flat a w →
  ∃β' ρ' S1,k e (S.out ks ms S1)=some r∧agP S.prot β β' ρ ρ'∧Rel X β' ρ' (S.out ks ms S1).flat a w
 | [q],e,S',x,hi,ho,hk,h=>by
  simp only[inj]at hi
  obtain⟨hb,hd⟩:=bvT hi
  have:=Ex.beq_ok hb
  subst this
  obtain⟨β',ρ',h1,h2⟩:=Tk (S0:=S.ent ks ms) h hk hd
  rw[←Qfn]at h2
  exact⟨β',ρ',enc q.2 x,ho,h1,h2⟩
 | q::q2::l,e,S',x,hi,ho,hk,h=>by
  simp only[inj]at hi
  cases hb:Ex.beq q.1 e with
  | true =>
   rw[hb]at hi
   have:=Ex.beq_ok hb
   subst this
   simp only[cond_true]at hi
   split at hi
   ·rename_i y hd
    injection hi with hi; subst hi
    obtain⟨β',ρ',h1,h2⟩:=Tk (S0:=S.ent ks ms) h hk hd
    rw[←Qfn]at h2
    exact⟨β',ρ',enc q.2 y,ho,h1,h2⟩
   ·cases hi
  | false =>
   rw[hb]at hi
   simp only[cond_false]at hi
   split at hi
   ·rename_i y hd
    injection hi with hi; subst hi
    exact Qn3 ks ms hd ho hk h
   ·cases hi
end
variable {P:Program} {Y:TX} {X:Cx} {n N:Nat} {K:List Con} {β:Nat→Nat} {ρ:Nat→Value} {a:Act} {w:World} {Q:Exit→Act→World→Prop} {R:Type} {r:R} {k:Ex→XS→Option R} {S1:XS}
theorem isVal{t:Ty}{ok:Ok}{x:t.De}{v:Value}(h:isV (rt t) ok w x v):∃c,v=(AV.d t x).val c∧cr β ρ ok w false (.d t x) c:=by
 obtain⟨cs,h1,h2⟩:=Qne h
 exact⟨cs,h2,h1⟩
end
end Gx
