/- Regions, control, functions. -/
import Derived.Test.YtpdhjildhjpjdaaGreatXMe
import Derived.StillTail
import Derived.Test.YtpdhjildhjpjdaaGreatXH
import Derived.Maps.RangeRun
namespace Gx
open Go Go.RowKit Gd
set_option linter.unusedVariables false
set_option linter.unusedSimpArgs false
def Q4p(P:Program)(gl:List (Nat×Σ t:Ty,t.De))(K:List Con):Prop:=∀c∈K,Qa5 P gl c∧Runs P c.f
def KsX(P:Program)(Y:TX)(X:Cx)(K:List Con):Prop:=Q4p P Y.gl K∧Um Y.gl (okN X) X.w
theorem Jj8{M:List (Nat×Ob)}(x:AV):(Te M x).isAgg=x.isAgg:=by
 cases x with
 | s id =>
  simp only[Te]
  split<;>rfl
 | _=>rfl
theorem Q4q{M:List (Nat×Ob)}(x:AV)(cs:List Value):(Te M x).val cs=x.val cs:=by
 unfold AV.val
 rw[Jj8]
theorem Qlt{M:List (Nat×Ob)}:∀{x:AV} {i:Nat},i∈Jc (Te M x)→i∈Jc x
 | .s id,i,h=>by
  simp only[Te]at h
  split at h
  ·cases h
  ·exact h
 | .ag l,i,h=>Qlt (x:=l) h
 | .cons x r,i,h=>by
  rcases QZ.1 (show i∈Jc (Te M x)++Jc (Te M r)from h)with h | h
  ·exact List.mem_append_left _ (Qlt h)
  ·exact List.mem_append_right _ (Qlt h)
 | .d ..,i,h=>h
 | .p ..,i,h=>h
 | .e ..,i,h=>h
 | .m _,i,h=>h
 | .b _,i,h=>h
 | .w ..,i,h=>h
 | .a ..,i,h=>h
 | .z,i,h=>h
 | .ns,i,h=>h
 | .np,i,h=>h
 | .nm,i,h=>h
 | .nf,i,h=>h
 | .f ..,i,h=>h
 | .tp _,i,h=>h
 | .nil,i,h=>h
section
variable {β:Nat→Nat} {ρ:Nat→Value} {ok:Ok} {w:World}
theorem Qcq{M:List (Nat×Ob)}(hM:∀id o,Qg M id=some o→(Qu β ρ id o).p ok w):∀{m:Bool} {x:AV} {cs:List Value},cr β ρ ok w m x cs→cr β ρ ok w m (Te M x) cs
 | m,.s id,cs,h=>by
  simp only[Te]
  split
  ·rename_i e t xs ho
   have h1:=(hM _ _ ho).1
   have h':(∃v,cs=[v]∧zal v (ρ id))∧∃A n c,ρ id=.slice A n c:=by cases m<;>exact h
   obtain⟨⟨v,rfl,hz⟩,_⟩:=h'
   have h2:(rt (.sl t)).rep ok w xs [v]:=⟨_,rfl,U3.1 (Qzr hz h1)⟩
   cases m<;>exact h2
  ·exact h
 | m,.ag l,cs,h=>by
  have h':cr β ρ ok w false l cs:=by cases m<;>exact h
  have:=Qcq hM (m:=false) (x:=l) h'
  cases m<;>exact this
 | true,.cons x r,cs,⟨c1,vs,h1,h2,h3⟩=>⟨c1,vs,by rw[h1,Q4q],Qcq hM h2,Qcq hM h3⟩
 | false,.cons x r,cs,⟨c1,c2,h1,h2,h3⟩=>⟨c1,c2,h1,Qcq hM h2,Qcq hM h3⟩
 | m,.d ..,cs,h=>h
 | m,.p ..,cs,h=>h
 | m,.e ..,cs,h=>h
 | m,.m _,cs,h=>h
 | m,.b _,cs,h=>h
 | m,.w ..,cs,h=>h
 | m,.a ..,cs,h=>h
 | m,.z,cs,h=>h
 | m,.ns,cs,h=>h
 | m,.np,cs,h=>h
 | m,.nm,cs,h=>h
 | m,.nf,cs,h=>h
 | m,.f ..,cs,h=>h
 | m,.tp _,cs,h=>h
 | m,.nil,cs,h=>h
end
theorem Sb.replO{β0:Nat→Nat}{X:Cx}{G:GL}{D:List DF}{H:HL}{O1 O2:List TL}{t t':TL}{a:Act}{w:World}(h:Sb β0 X G D H (O1++t::O2) a w)(h1:∀g,t'.blks g↔t.blks g)(h2:∀b o,t'.cov b o↔t.cov b o)
  (hp:t'.p (Jn X.ok X.w.heap.size β0 H (O1++t::O2) w) w):Sb β0 X G D H (O1++t'::O2) a w:=by
 have hmem:∀u∈O1++t'::O2,u=t'∨u∈O1++t::O2:=fun u hu=>by
  grind
 have ht:t∈O1++t::O2:=List.mem_append_right _ (.head _)
 have hok:∀b o,Jn X.ok X.w.heap.size β0 H (O1++t::O2) w b o→Jn X.ok X.w.heap.size β0 H (O1++t'::O2) w b o:=fun b o ⟨q1,q2,q3,q4⟩=>⟨q1,q2,q3,fun u hu hc=>by
  grind⟩
 refine { sz:=h.sz,df:=h.df,fr:=h.fr,pn:=h.pn,tm:=h.tm,bel:=h.bel,dat:=h.dat.weak hok,obj:=h.obj,own:=fun u hu=>?_,dHH:=h.dHH,dHO:=fun p hp' u hu=>?_,dOO:=?_ }
 ·rcases hmem u hu with rfl | hu
  ·exact⟨u.weak hp hok,fun g hg=>(h.own t ht).2 g ((h1 g).1 hg)⟩
  ·exact⟨u.weak (h.own u hu).1 hok,(h.own u hu).2⟩
 ·rcases hmem u hu with rfl | hu
  ·exact fun hb=>h.dHO p hp' t ht ((h1 _).1 hb)
  ·exact h.dHO p hp' u hu
 ·have:=h.dOO
  rw[QA,List.pairwise_cons]at this ⊢
  grind
theorem Jww{X:Cx}{β:Nat→Nat}{ρ:Nat→Value}{a:Act}{w:World}{S:XS}(h:Rel X β ρ S.flat a w){id:Nat}{tid:TypeId}{c:AV}(hm:Qg S.mem id=some (.var tid c)):Rel X β ρ (S.set id (.var tid (Te S.flat.mem c))).flat a w:=by
 have hm':Qg S.flat.mem id=some (.var tid c):=Qx hm
 obtain⟨l1,l2,e1,e2,e3⟩:=Jj hm'
 have hE:(S.set id (.var tid (Te S.flat.mem c))).flat=⟨S.flat.env,Ri S.flat.mem id (.var tid (Te S.flat.mem c))⟩:=by
  grind [XS.flat,XS.set,X7]
 rw[hE,e2]
 have hO:Qj β ρ S.flat.mem=Qj β ρ l1++Qu β ρ id (.var tid c)::Qj β ρ l2:=by rw[e1]; simp[Qj]
 have hmem:Qj β ρ (l1++(id,Ob.var tid (Te S.flat.mem c))::l2)=Qj β ρ l1++Qu β ρ id (.var tid (Te S.flat.mem c))::Qj β ρ l2:=by simp[Qj]
 have h0:Sb (fun _=>0) X [] (S.flat.env.map (enD β ρ a)) [] (Qj β ρ l1++Qu β ρ id (.var tid c)::Qj β ρ l2) a w:=by rw[←hO]; exact h
 obtain⟨cs,q1,q2⟩:=(h.ob hm').1
 have hS:=Sb.replO h0 (t':=Qu β ρ id (.var tid (Te S.flat.mem c))) (fun _=>Iff.rfl) (fun _ _=>Iff.rfl) (by
  rw[←hO]
  exact⟨cs,q1,Qcq h.mm q2⟩)
 exact Rel.ofSb hS hmem.symm fun e he=>by
  have:=Yc.1 hS.dat _ (QK.2 ⟨e,he,rfl⟩)
  rw[←hmem]at this
  exact this
section
variable {P:Program} {Y:TX} {X:Cx} {S:XS} {β β':Nat→Nat} {ρ ρ':Nat→Value} {a a':Act} {w w':World} {n N:Nat} {K:List Con}
variable {Q:Exit→Act→World→Prop} {R:Type} {r:R}
theorem Qlu{env:List En}:∀{ts:List Nat},∀e∈Qvx env ts,e∈env
 | [],e,he=>by simp[Qvx]at he
 | t::ts,e,he=>by
  simp only[Qvx]at he
  split at he
  ·rename_i x hx
   rcases QX.1 he with rfl | he
   ·grind [Zo]
   ·exact Qlu e he
  ·exact Qlu e he
theorem Rel.ent(h:Rel X β ρ S.flat a w)(ks ms:List Nat):Rel X β ρ (S.ent ks ms).flat a w:=by
 have h1:Rel X β ρ ⟨S.env++(Qvx S.env ks++S.fix),S.flat.mem⟩ a w:=Rel.less (S:=S.flat) h fun e he=>by
  rcases QZ.1 he with he | he
  ·exact List.mem_append_left _ he
  ·rcases QZ.1 he with he | he
   ·exact List.mem_append_left _ (Qlu e he)
   ·exact List.mem_append_right _ he
 refine h1.permM ?_
 simp only[XS.flat,XS.ent]
 have:=Kr ms S.mem
 rw[←List.append_assoc]
 exact((JG.trans this).append_right _).symm
theorem Qfi(ks ms:List Nat)(S1:St):(S.out ks ms S1).flat=((S.ent ks ms).re S1).flat:=by simp[XS.flat,XS.out,XS.re,XS.ent]
theorem Ti{S0 S':XS}{Γ:Shp}(h:Rel X β ρ S'.flat a w)(hk:S'.fix=S0.fix∧S'.fixM=S0.fixM∧S'.prot=S0.prot){x:Γ.De}(hd:S'.dec Γ=some x) :
  ∃β' ρ',agP S0.prot β β' ρ ρ'∧Rel X β' ρ' (S0.re (enc Γ x)).flat a w:=by
 obtain⟨β',ρ',h1,h2⟩:=XS.dec_ok h hd
 rw[hk.2.2]at h1
 rw[hk.1,hk.2.1]at h2
 exact⟨β',ρ',h1,h2⟩
theorem Qtc(h:Rel X β ρ S.flat a w){t:Nat}{x:AV}(he:Xh S.env t=some ⟨t,[],x⟩):Rel X β ρ (XS.put S t [] x).flat a w:=by
 obtain⟨hm,_⟩:=Zo he
 refine Rel.less (S:=S.flat) h fun e hE=>?_
 rcases QZ.1 hE with hE | hE
 ·rcases QX.1 hE with rfl | hE
  ·exact List.mem_append_left _ hm
  ·exact List.mem_append_left _ (N9 hE).1
 ·exact List.mem_append_right _ hE
theorem Jci(h:Rel X β ρ S.flat a w){t:Nat}{b:Bool}(he:Xh S.env t=some ⟨t,[],.d .bool b⟩):Rel X β ρ (XS.put S t [] (.d .bool b)).flat a w:=by
 obtain⟨hm,_⟩:=Zo he
 refine Rel.less (S:=S.flat) h fun e hE=>?_
 rcases QZ.1 hE with hE | hE
 ·rcases QX.1 hE with rfl | hE
  ·exact List.mem_append_left _ hm
  ·exact List.mem_append_left _ (N9 hE).1
 ·exact List.mem_append_right _ hE
theorem Vs(hT:Qy P Y.T)(hK:KsX P Y X K)(hX:X.n=n)(hr:X.res=[]){ops:List Oper}{Q:Exit→Act→World→Prop}:∀{R:Type} {r:R} (h:Hn) {l rest:List Oper} {S:XS} {β:Nat→Nat} {ρ:Nat→Value} {a:Act} {w:World} {k:XS→Option R},
  Rel X β ρ S.flat a w→Y3 Y K n ops h l S k=some r→KOk P ⟨ops⟩ Q rest X S β ρ k r→wpList P ⟨ops⟩ Q (l++rest) a w
 | R,r,.done,l,rest,S,β,ρ,a,w,k,hS,hs,H=>by
  cases l with
  | nil=>exact H β ρ S a w (by simp_all [Y3]) (Y6.refl _ _ _) hS
  | cons o l=>simp[Y3]at hs
 | R,r,.n m g,l,rest,S,β,ρ,a,w,k,hS,hs,H=>by
  simp only[Y3]at hs
  have:=Qz6 (P:=P) (X:=X) (Q:=Q) (r:=r) (Qlj Y n ops) (fun h1 h2 h3=>Jj0 hT hX hr h1 h2 h3) (l1:=l.take m) (rest:=l.drop m++rest) hS hs fun β' ρ' S' a' w' h1 h2 h3=>Vs hT hK hX hr g h3 h1 (H.after h2)
  rwa[←List.append_assoc,List.take_append_drop]at this
 | R,r,.nl m g,l,rest,S,β,ρ,a,w,k,hS,hs,H=>by
  simp only[Y3]at hs
  have:=Qz6 (P:=P) (X:=X) (Q:=Q) (r:=r) (Gx.stepL Y n ops) (fun h1 h2 h3=>Jj1 hT hX hr h1 h2 h3) (l1:=l.take m) (rest:=l.drop m++rest) hS hs fun β' ρ' S' a' w' h1 h2 h3=>Vs hT hK hX hr g h3 h1 (H.after h2)
  rwa[←List.append_assoc,List.take_append_drop]at this
 | R,r,.call c g,l,rest,S,β,ρ,a,w,k,hS,hs,H=>by
  simp only[Y3]at hs
  split at hs
  ·rename_i con o l' hc
   split at hs
   ·rename_i hg
    have hcm:=hK.1 con (List.mem_of_getElem? hc)
    exact Qph hX hr hS (Kq (N3 hg) _) hcm.1 hK.2 hcm.2 hs fun β' ρ' S' a' w' h1 h2 h3=>Vs hT hK hX hr g h3 h1 (H.after h2)
   ·rename_i t want hg
    split at hs
    ·rename_i t' b he
     split at hs
     ·rename_i hb
      have hbw:b=want:=by simpa using hb
      subst hbw
      obtain⟨cs,h1,h2⟩:=hS.get he (Qe a)
      have h2':cs=_:=h2
      subst h2'
      have hcm:=hK.1 con (List.mem_of_getElem? hc)
      exact Qph hX hr hS ((V7 hg).2 h1) hcm.1 hK.2 hcm.2 hs fun β' ρ' S' a' w' h1 h2 h3=>Vs hT hK hX hr g h3 h1 (H.after h2)
     ·cases hs
    ·cases hs
   ·cases hs
  ·cases hs
 | R,r,.br g,l,rest,S,β,ρ,a,w,k,hS,hs,H=>by
  simp only[Y3]at hs
  split at hs
  ·rename_i o l'
   split at hs
   ·rename_i hg
    exact Q4h hT hX hr hS (Kq (N3 hg) _) hs fun β' ρ' S' a' w' h1 h2 h3=>Vs hT hK hX hr g h3 h1 (H.after h2)
   ·rename_i t want hg
    split at hs
    ·rename_i t' b he
     split at hs
     ·rename_i hb
      have hbw:b=want:=by simpa using hb
      subst hbw
      obtain⟨cs,h1,h2⟩:=hS.get he (Qe a)
      have h2':cs=_:=h2
      subst h2'
      exact Q4h hT hX hr hS ((V7 hg).2 h1) hs fun β' ρ' S' a' w' h1 h2 h3=>Vs hT hK hX hr g h3 h1 (H.after h2)
     ·cases hs
    ·cases hs
   ·cases hs
  ·cases hs
 | R,r,.fz id g,l,rest,S,β,ρ,a,w,k,hS,hs,H=>by
  simp only[Y3]at hs
  have h1:Rel X β ρ (XS.flat { S with mem:=Vc [id] S.mem }) a w:=by
   have:=Rel.freeze S.mem (l0:=[]) (F:=S.fixM) (ks:=[id]) hS
   simp only[QE]at this
   exact this
  exact Vs hT hK hX hr g h1 hs (H.after ⟨rfl,rfl,rfl,agP.refl _ _ _⟩)
 | R,r,.keep ts g,l,rest,S,β,ρ,a,w,k,hS,hs,H=>by
  simp only[Y3]at hs
  have h1:Rel X β ρ (XS.flat { S with env:=Qvx S.env ts }) a w:=Rel.less (S:=S.flat) hS fun e he=>by
   rcases QZ.1 he with he | he
   ·exact List.mem_append_left _ (Qlu e he)
   ·exact List.mem_append_right _ he
  exact Vs hT hK hX hr g h1 hs (H.after ⟨rfl,rfl,rfl,agP.refl _ _ _⟩)
 | R,r,.op src id d g,l,rest,S,β,ρ,a,w,k,hS,hs,H=>by
  simp only[Y3]at hs
  obtain⟨S1,β1,ρ1,h1,h2,hs⟩:=Q37 hS hs
  exact Vs hT hK hX hr g h2 hs (H.after h1)
 | R,r,.cl id g,l,rest,S,β,ρ,a,w,k,hS,hs,H=>by
  simp only[Y3]at hs
  obtain⟨S1,ρ1,h1,h2,hs⟩:=Qxa hS hs
  exact Vs hT hK hX hr g h2 hs (H.after h1)
 | R,r,.fm id g,l,rest,S,β,ρ,a,w,k,hS,hs,H=>by
  simp only[Y3]at hs
  obtain⟨S1,h1,h2,hs⟩:=Q39 hS hs
  exact Vs hT hK hX hr g h2 hs (H.after h1)
 | R,r,.md m g,l,rest,S,β,ρ,a,w,k,hS,hs,H=>by simp[Y3]at hs
 | R,r,.tl g,l,rest,S,β,ρ,a,w,k,hS,hs,H=>by simp[Y3]at hs
 | R,r,.dt _ g,l,rest,S,β,ρ,a,w,k,hS,hs,H=>by simp[Y3]at hs
 | R,r,.si t i x y,l,rest,S,β,ρ,a,w,k,hS,hs,H=>by
  simp only[Y3]at hs
  split at hs
  ·rename_i t' kd v he
   obtain⟨hf,hs⟩:=bvT hs
   split at hs
   ·rename_i hv
    subst hv
    have ht:t'=t:=(Zo he).2
    subst ht
    exact Vs hT hK hX hr x (Qtc hS he) hs (H.after ⟨rfl,rfl,rfl,agP.refl _ _ _⟩)
   ·exact Vs hT hK hX hr y hS hs H
  ·cases hs
 | R,r,.so t x y,l,rest,S,β,ρ,a,w,k,hS,hs,H=>by simp[Y3]at hs
 | R,r,.sp t m ks ms Γ x y g,l,rest,S,β,ρ,a,w,k,hS,hs,H=>by
  simp only[Y3]at hs
  split at hs
  ·rename_i t' v he
   have ht':t'=t:=(Zo he).2
   subst ht'
   obtain⟨hb,hs⟩:=bvT hs
   obtain⟨z,hz,hs⟩:=Yp hs
   have hp:=Jci hS he
   have fin:KOk P ⟨ops⟩ Q (l.drop m++rest) X ((XS.put S t' [] (.d .bool v)).ent ks ms) β ρ (fun S'=>S'.dec Γ) z:=by
    intro β1 ρ1 S' a' w' hd hk h1
    obtain⟨β2,ρ2,h2,h3⟩:=Ti (S0:=(XS.put S t' [] (.d .bool v)).ent ks ms) h1 ⟨hk.fix,hk.fixM,hk.prot⟩ hd
    rw[←Qfi]at h3
    refine Vs hT hK hX hr g h3 hs (H.after ⟨rfl,rfl,rfl,?_⟩)
    exact agP.trans hk.ag h2
   have e:l++rest=l.take m++(l.drop m++rest):=by rw[←List.append_assoc,List.take_append_drop]
   rw[e]
   cases v with
   | true =>
    rw[if_pos rfl]at hz
    exact Vs hT hK hX hr x (hp.ent ks ms) hz fin
   | false =>
    rw[if_neg (by simp)]at hz
    exact Vs hT hK hX hr y (hp.ent ks ms) hz fin
  ·cases hs
theorem Qcr:∀{R:Type} {r:R} (h:Hn) {S:XS} {β:Nat→Nat} {ρ:Nat→Value} {k:XS→Option R},Rel X β ρ S.flat a w→Tf h S k=some r→∃S' β' ρ',k S'=some r∧Y6 S S' β β' ρ ρ'∧Rel X β' ρ' S'.flat a w
 | R,r,.done,S,β,ρ,k,hS,hs=>⟨S,β,ρ,hs,Y6.refl _ _ _,hS⟩
 | R,r,.fz id g,S,β,ρ,k,hS,hs=>by
  simp only[Tf]at hs
  have h1:Rel X β ρ (XS.flat { S with mem:=Vc [id] S.mem }) a w:=by
   have:=Rel.freeze S.mem (l0:=[]) (F:=S.fixM) (ks:=[id]) hS
   simp only[QE]at this
   exact this
  obtain⟨S',β',ρ',q1,q2,q3⟩:=Qcr g h1 hs
  exact⟨S',β',ρ',q1,⟨q2.fix,q2.fixM,q2.prot,q2.ag⟩,q3⟩
 | R,r,.op src id d g,S,β,ρ,k,hS,hs=>by
  simp only[Tf]at hs
  obtain⟨S1,β1,ρ1,h1,h2,hs⟩:=Q37 hS hs
  obtain⟨S',β',ρ',q1,q2,q3⟩:=Qcr g h2 hs
  exact⟨S',β',ρ',q1,h1.trans q2,q3⟩
 | R,r,.cl id g,S,β,ρ,k,hS,hs=>by
  simp only[Tf]at hs
  obtain⟨S1,ρ1,h1,h2,hs⟩:=Qxa hS hs
  obtain⟨S',β',ρ',q1,q2,q3⟩:=Qcr g h2 hs
  exact⟨S',β',ρ',q1,h1.trans q2,q3⟩
 | R,r,.fm id g,S,β,ρ,k,hS,hs=>by
  simp only[Tf]at hs
  obtain⟨S1,h1,h2,hs⟩:=Q39 hS hs
  obtain⟨S',β',ρ',q1,q2,q3⟩:=Qcr g h2 hs
  exact⟨S',β',ρ',q1,h1.trans q2,q3⟩
 | R,r,.n _ _,S,β,ρ,k,hS,hs=>by simp[Tf]at hs
 | R,r,.nl _ _,S,β,ρ,k,hS,hs=>by simp[Tf]at hs
 | R,r,.md _ _,S,β,ρ,k,hS,hs=>by simp[Tf]at hs
 | R,r,.keep _ _,S,β,ρ,k,hS,hs=>by simp[Tf]at hs
 | R,r,.sp _ _ _ _ _ _ _ _,S,β,ρ,k,hS,hs=>by simp[Tf]at hs
 | R,r,.call _ _,S,β,ρ,k,hS,hs=>by simp[Tf]at hs
 | R,r,.tl _,S,β,ρ,k,hS,hs=>by simp[Tf]at hs
 | R,r,.dt id g,S,β,ρ,k,hS,hs=>by
  simp only[Tf]at hs
  split at hs
  ·rename_i tid c hm
   obtain⟨S',β',ρ',q1,q2,q3⟩:=Qcr g (Jww hS hm) hs
   exact⟨S',β',ρ',q1,⟨q2.fix,q2.fixM,q2.prot,q2.ag⟩,q3⟩
  ·cases hs
 | R,r,.so _ _ _,S,β,ρ,k,hS,hs=>by simp[Tf]at hs
 | R,r,.si _ _ _ _,S,β,ρ,k,hS,hs=>by simp[Tf]at hs
def TOk(P:Program)(ops:Array Oper)(Q:Act→Prop)(rest:List Oper)(X:Cx)(w:World)(S0:XS)(β:Nat→Nat)(ρ:Nat→Value){R:Type}(k:XS→Option R)(r:R):Prop :=
 ∀(β':Nat→Nat) (ρ':Nat→Value) (S':XS) (a':Act),k S'=some r→Y6 S0 S' β β' ρ ρ'→Rel X β' ρ' S'.flat a' w→wpStill P ops w Q rest a'
theorem TOk.after{ops:Array Oper}{Q:Act→Prop}{rest:List Oper}{k:XS→Option R}(h:TOk P ops Q rest X w S β ρ k r){S1:XS}{β1:Nat→Nat}{ρ1:Nat→Value}(hk:Y6 S S1 β β1 ρ ρ1):TOk P ops Q rest X w S1 β1 ρ1 k r :=
 fun β' ρ' S' a' h1 h2 h3=>h β' ρ' S' a' h1 (hk.trans h2) h3
section
variable {ops:List Oper} {Qs:Act→Prop} {rest:List Oper} {k:XS→Option R}
theorem Q4r{o:Oper}(hw:Region.wanted o (yielded ⟨ops⟩ a.tmps)=true){v:Value}(hr:(execOp a.eval o).run P w=.ok (.value v) w)(h:wpStill P ⟨ops⟩ w Qs rest (a.put o.dst v)):wpStill P ⟨ops⟩ w Qs (o::rest) a:=by
 simp_all [wpStill,if_pos,Oper.still,Oper.stillUpon_value]
theorem Qtd{o:Oper}(hw:Region.wanted o (yielded ⟨ops⟩ a.tmps)=false)(h:wpStill P ⟨ops⟩ w Qs rest (a.put o.dst undef)):wpStill P ⟨ops⟩ w Qs (o::rest) a:=by
 simp_all [wpStill,if_neg]
theorem Qte(hT:Qy P Y.T)(hX:X.n=n)(hr:X.res=[])(h:Rel X β ρ S.flat a w){o:Oper}(hw:Region.wanted o (yielded ⟨ops⟩ a.tmps)=true)(hs:Q32 Y n o S k=some r)(H:TOk P ⟨ops⟩ Qs rest X w S β ρ k r):wpStill P ⟨ops⟩ w Qs (o::rest) a:=by
 unfold Q32 at hs
 split at hs
 ·rename_i d hd
  obtain⟨hb,hs⟩:=bvT hs
  obtain⟨av,hk,hsem⟩:=Q3x (P:=P) hT rfl hs
  obtain⟨h1,h2⟩:=Y7 hb hX hr
  obtain⟨cs,h3,h4⟩:=hsem h.toW (Qe a)
  refine Q4r hw h3 ?_
  rw[hd]
  refine H β ρ _ _ hk (H3 S d [] av) ?_
  rw[Ko h2]
  exact h.put0 h1 h4
 ·cases hs
theorem Q4s(hX:X.n=n)(hr:X.res=[])(h:Rel X β ρ S.flat a w){o:Oper}(hw:Region.wanted o (yielded ⟨ops⟩ a.tmps)=false)(hs:Qfd n o S k=some r)(H:TOk P ⟨ops⟩ Qs rest X w S β ρ k r):wpStill P ⟨ops⟩ w Qs (o::rest) a:=by
 refine Qtd hw ?_
 unfold Qfd at hs
 split at hs
 ·rename_i d hd
  obtain⟨hb,hk⟩:=bvT hs
  obtain⟨h1,h2⟩:=Y7 hb hX hr
  rw[hd]
  refine H β ρ _ _ hk (H3 S d [] _) ?_
  rw[Ko h2]
  exact h.put0 h1 (x:=.tp .nil) (c:=[.tuple #[]]) ⟨[],rfl,rfl⟩
 ·rename_i hd
  rw[hd]
  exact H β ρ _ _ hs (Y6.refl _ _ _) h
theorem Jf6(hT:Qy P Y.T)(hX:X.n=n)(hr:X.res=[])(h:Rel X β ρ S.flat a w){o:Oper}{t:Nat}{want:Bool}(hg:Qjr ops o=some (some (t,want)))(hs:Qli Y n t want o S k=some r)(H:TOk P ⟨ops⟩ Qs rest X w S β ρ k r) :
  wpStill P ⟨ops⟩ w Qs (o::rest) a:=by
 unfold Qli at hs
 split at hs
 ·rename_i t' cs b d he hd
  obtain⟨hb,hs⟩:=bvT hs
  simp only[QQ]at hb
  obtain⟨h1,h2⟩:=Y7 hb.1.1 hX hr
  have htd:=neB hb.1.2
  have hud:∀c∈cs,c.1≠d:=Qe8 (by grind)
  split at hs
  ·rename_i v hv
   obtain⟨hm,ht'⟩:=Zo he
   simp only at ht'
   subst ht'
   have hkeep:∀u:Value,Jy (a.put (some d) u) ((t',want)::cs)↔Jy a ((t',want)::cs):=by
    intro u
    have hne:∀c∈(t',want)::cs,c.1≠d:=by
     grind
    exact⟨fun hc c hm=>by rw[←Vf (hne c hm) u]; exact hc c hm,fun hc c hm=>by rw[Vf (hne c hm) u]; exact hc c hm⟩
   by_cases hw:Region.wanted o (yielded ⟨ops⟩ a.tmps)=true
   ·have htb:=(V7 hg).1 hw
    have hcs:Jy a cs:=by
     rcases(h.en hm).2 with h3 | h3
     ·exact h3
     grind [R3,Qe7,undef]
    have hcur:Jy a ((t',want)::cs):=by
     intro c hc
     rcases QX.1 hc with rfl | hc
     ·exact htb
     ·exact hcs c hc
    obtain⟨c,h3,h4⟩:=Qle hT h.toW hcur hv
    refine Q4r hw h3 ?_
    rw[hd]
    refine H β ρ _ _ hs (H3 S d _ _) ?_
    rw[Ko h2]
    exact h.put h1 (fun _=>⟨c,rfl,h4⟩) (.inl ((hkeep _).2 hcur))
   ·have hw':Region.wanted o (yielded ⟨ops⟩ a.tmps)=false:=by simpa using hw
    refine Qtd hw' ?_
    rw[hd]
    refine H β ρ _ _ hs (H3 S d _ _) ?_
    rw[Ko h2]
    refine h.put h1 (fun hc=>?_) (.inr rfl)
    have:=(hkeep _).1 hc
    exact absurd ((V7 hg).2 (this _ (.head _))) hw
  ·cases hs
 ·cases hs
theorem Jf7(hT:Qy P Y.T)(hX:X.n=n)(hr:X.res=[])(h:Rel X β ρ S.flat a w){o:Oper}(hs:Qzy Y n ops o S k=some r)(H:TOk P ⟨ops⟩ Qs rest X w S β ρ k r):wpStill P ⟨ops⟩ w Qs (o::rest) a:=by
 grind [Qzy,Qte,Kq,N3,Jf6]
theorem Jf8(hT:Qy P Y.T)(hX:X.n=n)(hr:X.res=[])(h:Rel X β ρ S.flat a w){o:Oper}(hs:Qzz Y n ops o S k=some r)(H:TOk P ⟨ops⟩ Qs rest X w S β ρ k r):wpStill P ⟨ops⟩ w Qs (o::rest) a:=by
 unfold Qzz at hs
 split at hs
 ·grind [Qte,Kq,N3]
 ·rename_i t want hg
  split at hs
  ·rename_i t' b he
   obtain⟨cs,h1,h2⟩:=h.get he (Qe a)
   have h2':cs=_:=h2
   subst h2'
   have h1':a.tmps[t]?=some (.bool b):=h1
   split at hs
   ·grind [Qte,V7]
   ·rename_i hb
    refine Q4s hX hr h ?_ hs H
    have hne:b≠want:=by simpa using hb
    cases hw:Region.wanted o (yielded ⟨ops⟩ a.tmps)with
    | false=>rfl
    | true =>
     have:=(V7 hg).1 hw
     rw[h1']at this
     grind
  ·rename_i t' he
   obtain⟨cs,h1,vs,h2,h3⟩:=h.get he (Qe a)
   subst h2
   refine Q4s hX hr h ?_ hs H
   cases hw:Region.wanted o (yielded ⟨ops⟩ a.tmps)with
   | false=>rfl
   | true =>
    have:=(V7 hg).1 hw
    rw[h1]at this
    injection this with this
    cases this
  ·cases hs
 ·cases hs
theorem Qtf(st:Oper→XS→(XS→Option R)→Option R)
  (hst:∀{o:Oper} {rest:List Oper} {S:XS} {β:Nat→Nat} {ρ:Nat→Value} {a:Act} {k:XS→Option R},Rel X β ρ S.flat a w→st o S k=some r→TOk P ⟨ops⟩ Qs rest X w S β ρ k r→wpStill P ⟨ops⟩ w Qs (o::rest) a) :
  ∀{l1 rest:List Oper} {S:XS} {β:Nat→Nat} {ρ:Nat→Value} {a:Act} {k:XS→Option R},Rel X β ρ S.flat a w→Qp9 st l1 S k=some r→TOk P ⟨ops⟩ Qs rest X w S β ρ k r→wpStill P ⟨ops⟩ w Qs (l1++rest) a
 | [],rest,S,β,ρ,a,k,h,hs,H=>H β ρ S a hs (Y6.refl _ _ _) h
 | o::l1,rest,S,β,ρ,a,k,h,hs,H=>by
  simp only[Qp9]at hs
  refine hst (rest:=l1++rest) h hs fun β' ρ' S' a' hk hkeep h'=>?_
  exact Qtf st hst h' hk (H.after hkeep)
end
theorem Qcs(hT:Qy P Y.T)(hX:X.n=n)(hr:X.res=[]){ops:List Oper}{Qs:Act→Prop}:∀{R:Type} {r:R} (h:Hn) {l rest:List Oper} {S:XS} {β:Nat→Nat} {ρ:Nat→Value} {a:Act} {k:XS→Option R},
  Rel X β ρ S.flat a w→Oi Y n ops h l S k=some r→TOk P ⟨ops⟩ Qs rest X w S β ρ k r→wpStill P ⟨ops⟩ w Qs (l++rest) a
 | R,r,.done,l,rest,S,β,ρ,a,k,hS,hs,H=>by
  cases l with
  | nil=>exact H β ρ S a (by grind [Oi]) (Y6.refl _ _ _) hS
  | cons o l=>simp[Oi]at hs
 | R,r,.n m g,l,rest,S,β,ρ,a,k,hS,hs,H=>by
  simp only[Oi]at hs
  have:=Qtf (P:=P) (X:=X) (w:=w) (r:=r) (Qzy Y n ops) (fun h1 h2 h3=>Jf7 hT hX hr h1 h2 h3) (l1:=l.take m) (rest:=l.drop m++rest) hS hs fun β' ρ' S' a' h1 h2 h3=>Qcs hT hX hr g h3 h1 (H.after h2)
  rwa[←List.append_assoc,List.take_append_drop]at this
 | R,r,.nl m g,l,rest,S,β,ρ,a,k,hS,hs,H=>by
  simp only[Oi]at hs
  have:=Qtf (P:=P) (X:=X) (w:=w) (r:=r) (Qzz Y n ops) (fun h1 h2 h3=>Jf8 hT hX hr h1 h2 h3) (l1:=l.take m) (rest:=l.drop m++rest) hS hs fun β' ρ' S' a' h1 h2 h3=>Qcs hT hX hr g h3 h1 (H.after h2)
  rwa[←List.append_assoc,List.take_append_drop]at this
 | R,r,.call c g,l,rest,S,β,ρ,a,k,hS,hs,H=>by simp[Oi]at hs
 | R,r,.fz id g,l,rest,S,β,ρ,a,k,hS,hs,H=>by simp[Oi]at hs
 | R,r,.keep ts g,l,rest,S,β,ρ,a,k,hS,hs,H=>by simp[Oi]at hs
 | R,r,.md m g,l,rest,S,β,ρ,a,k,hS,hs,H=>by simp[Oi]at hs
 | R,r,.cl _ _,l,rest,S,β,ρ,a,k,hS,hs,H=>by simp[Oi]at hs
 | R,r,.op _ _ _ _,l,rest,S,β,ρ,a,k,hS,hs,H=>by simp[Oi]at hs
 | R,r,.fm _ _,l,rest,S,β,ρ,a,k,hS,hs,H=>by simp[Oi]at hs
 | R,r,.tl g,l,rest,S,β,ρ,a,k,hS,hs,H=>by simp[Oi]at hs
 | R,r,.dt _ g,l,rest,S,β,ρ,a,k,hS,hs,H=>by simp[Oi]at hs
 | R,r,.si _ _ _ _,l,rest,S,β,ρ,a,k,hS,hs,H=>by simp[Oi]at hs
 | R,r,.so t x y,l,rest,S,β,ρ,a,k,hS,hs,H=>by simp[Oi]at hs
 | R,r,.sp t m ks ms Γ x y g,l,rest,S,β,ρ,a,k,hS,hs,H=>by
  simp only[Oi]at hs
  split at hs
  ·rename_i t' v he
   have ht':t'=t:=(Zo he).2
   subst ht'
   obtain⟨hb,hs⟩:=bvT hs
   obtain⟨z,hz,hs⟩:=Yp hs
   have hp:=Jci hS he
   have fin:TOk P ⟨ops⟩ Qs (l.drop m++rest) X w ((XS.put S t' [] (.d .bool v)).ent ks ms) β ρ (fun S'=>S'.dec Γ) z:=by
    intro β1 ρ1 S' a' hd hk h1
    obtain⟨β2,ρ2,h2,h3⟩:=Ti (S0:=(XS.put S t' [] (.d .bool v)).ent ks ms) h1 ⟨hk.fix,hk.fixM,hk.prot⟩ hd
    rw[←Qfi]at h3
    refine Qcs hT hX hr g h3 hs (H.after ⟨rfl,rfl,rfl,?_⟩)
    exact agP.trans hk.ag h2
   have e:l++rest=l.take m++(l.drop m++rest):=by rw[←List.append_assoc,List.take_append_drop]
   rw[e]
   cases v with
   | true =>
    rw[if_pos rfl]at hz
    exact Qcs hT hX hr x (hp.ent ks ms) hz fin
   | false =>
    rw[if_neg (by simp)]at hz
    exact Qcs hT hX hr y (hp.ent ks ms) hz fin
  ·cases hs
theorem Rel.drew(h:Rel X β ρ S.flat a w):Rel X β ρ S.flat a { w with drawn:=w.drawn+1 }:=Sb.below h ((Below.refl _ _).drew)
end
end Gx

/- A region whose order is drawn, by an invariant alone. -/
namespace Gx
open Go Go.RowKit Gd
set_option linter.unusedVariables false
set_option linter.unusedSimpArgs false
section
variable {P:Program} {a:Act} {w:World}
theorem Q9u(I:(Nat→Bool)→Act→World→Prop){id:Nat}{l:List Oper}{Q:Exit→Act→World→Prop}(hm:P.follows .mixedOrders=true)(p:Nat)(hIE:∀(E E':Nat→Bool) (a:Act) (w:World),(∀i,i<p→E i=E' i)→I E a w→I E' a w)
  (hple:Nat.ble p l.length=true) (hback:Gd.backB l=true) (hfin:Jug l p=true) (h0:I (fun _=>false) a w.drew)
  (hstep:∀(E:Nat→Bool) (i:Nat) (o:Oper) (a:Act) (w:World) (Q':Exit→Act→World→Prop),i<p→l[i]?=some o→Qr1 l (fun j=>E j=true)→E i=false→(∀e∈o.after.toList,Region.binds .any e=true→E e.on=true)→I E a w →
   (∀a' w',I (fun j=>j==i||E j) a' w'→Q' .normal a' w')→wpList P ⟨l⟩ Q' [o] a w)
  (hend:∀a' w',I (fun _=>true) a' w'→wpList P ⟨l⟩ Q (l.drop p) a' w') :
  (Code.region id ⟨l⟩ true).wp P Q a w:=by
 refine wp_region_any hm ?_
 have hpl:=QV hple
 let E (listed:Array Bool):Nat→Prop:=fun i=>listed.getD i false=true
 let J1 (listed:Array Bool) (a:Act) (w:World):Prop:=(∀k,p≤k→¬ E listed k)∧I (fun i=>listed.getD i false) a w
 let J (listed:Array Bool) (a:Act) (w:World):Prop:=listed.size=l.length∧Qr1 l (E listed) ∧
  (J1 listed a w∨(∃k,p<k∧(∀i,i<l.length→(E listed i↔i<k))∧wpList P ⟨l⟩ Q (l.drop k) a w))
 have hset:∀(listed:Array Bool) (i j:Nat),listed.size=l.length→i<l.length→(E (listed.setIfInBounds i true) j↔(j=i∨E listed j)):=by
  intro listed i j hs hi
  simp only[E,QI,Array.getElem?_setIfInBounds,hs]
  grind
 have hsetB:∀(listed:Array Bool) (i j:Nat),listed.size=l.length→i<l.length→(listed.setIfInBounds i true).getD j false=(j==i||listed.getD j false):=by
  grind
 have hgo:∀listed a w,J1 listed a w→(∀j,j<p→E listed j)→wpList P ⟨l⟩ Q (l.drop p) a w:=by
  grind
 have hdone:∀listed a w,J listed a w→(∀i,i<l.length→E listed i)→Q .normal a w:=by
  rintro listed a w ⟨hs,hc,h1 | ⟨k,hk,hE,hw⟩⟩ hall
  ·have hpm:p=l.length:=by
    rcases Nat.lt_or_ge p l.length with hlt | hge
    ·grind
    ·omega
   have:=hgo listed a w h1 fun i hi=>hall i (by omega)
   rw[hpm,XP]at this
   exact this
  ·have hkl:l.length≤k:=by
    grind
   rw[ZL hkl]at hw
   exact hw
 have step1:∀(listed:Array Bool) (a:Act) (w:World) (i:Nat) (o:Oper) (Q':Exit→Act→World→Prop),listed.size=l.length→Qr1 l (E listed)→J1 listed a w→i<p→l[i]?=some o→¬ E listed i →
   (∀e∈o.after.toList,Region.binds .any e=true→listed.getD e.on false=true)→(∀a' w',J1 (listed.setIfInBounds i true) a' w'→Q' .normal a' w')→wpList P ⟨l⟩ Q' [o] a w:=by
  grind
 have main:∀(fuel:Nat) (listed:Array Bool) (a:Act) (w:World),J listed a w→((List.range l.length).filter fun i=>!listed.getD i false).length≤fuel→wpAny P .any ⟨l⟩ Q fuel listed a w:=by
  intro fuel
  induction fuel with
  | zero =>
   intro listed a w hJ hle
   have hall:∀i,i<l.length→E listed i:=by
    intro i hi
    cases hl:listed.getD i false with
    | true=>exact hl
    | false =>
     have:i∈(List.range l.length).filter fun i=>!listed.getD i false:=QN.2 ⟨JH.2 hi,by rw[hl]; rfl⟩
     have hnil:=QH (Nat.le_zero.1 hle)
     rw[hnil]at this; simp at this
   refine⟨?_,hdone listed a w hJ hall⟩
   apply List.eq_nil_iff_forall_not_mem.2
   intro i hi
   rw[Qnb]at hi
   have h1:=hall i hi.1
   have h2:=hi.2.1
   grind
  | succ fuel ih =>
   intro listed a w hJ hle
   refine⟨fun hr=>hdone listed a w hJ (Q86 hJ.1 hback hr),fun i hi=>?_⟩
   rw[Qnb]at hi
   obtain⟨hil,hnl,o,ho,hpre⟩:=hi
   obtain⟨hs,hc,hcase⟩:=hJ
   have hniE:¬ E listed i:=by
    grind
   have hcl:Qr1 l (E (listed.setIfInBounds i true)):=by
    intro j oj hj hoj e he hb
    rw[hset listed i _ hs hil]at hj ⊢
    rcases hj with rfl | hj
    ·rw[ho]at hoj; grind
    ·exact .inr (hc j oj hj hoj e he hb)
   have hcnt:((List.range l.length).filter fun j=>!(listed.setIfInBounds i true).getD j false).length≤fuel:=by
    have hlt:((List.range l.length).filter fun j=>!(listed.setIfInBounds i true).getD j false).length<((List.range l.length).filter fun j=>!listed.getD j false).length:=by
     apply Qtb (x:=i)
     ·grind
     ·grind
     ·have:=(hset listed i i hs hil).2 (.inl rfl)
      grind
     grind
    omega
   rcases hcase with hJ1 | ⟨k,hk,hE,hw⟩
   ·rcases Nat.lt_or_ge i p with hip | hip
    ·
     exact Qzk ho (step1 listed a w i o (Exit.then (wpAny P .any ⟨l⟩ Q fuel (listed.setIfInBounds i true)) Q) hs hc hJ1 hip ho hniE hpre fun a' w' hJ1=>ih _ a' w' ⟨by simp[hs],hcl,.inl hJ1⟩ hcnt)
    ·
     have hall:∀j,j<i→E listed j:=fun j hj=>Qau hc l.length i j (Jch hfin hip hil hj) fun o' ho'=>by rw[ho]at ho'; injection ho' with ho'; subst ho'; exact hpre
     have hip':i=p:=by
      rcases Nat.lt_or_ge p i with hlt | hge
      ·exact absurd (hall p hlt) (hJ1.1 p (QG _))
      ·omega
     subst hip'
     have hw:=hgo listed a w hJ1 hall
     refine wpOp_mono (fun a w hw'=>ih _ a w ⟨by simp[hs],hcl,.inr ⟨i+1,by omega,fun j hj=>?_,hw'⟩⟩ hcnt) (Qk0 ho hw)
     rw[hset listed i j hs hil]
     grind
   ·
    have hall:∀j,j<i→E listed j:=by
     intro j hj
     have hpi:p<i:=by
      rcases Nat.lt_or_ge i k with h1 | h1
      ·exact absurd ((hE i hil).2 h1) hniE
      ·omega
     exact Qau hc l.length i j (Jch hfin (by omega) hil hj) fun o' ho'=>by rw[ho]at ho'; injection ho' with ho'; subst ho'; exact hpre
    have hik:i=k:=by
     rcases Nat.lt_or_ge i k with h1 | h1
     ·exact absurd ((hE i hil).2 h1) hniE
     ·rcases Nat.lt_or_ge k i with h2 | h2
      ·have:=(hE k (by omega)).1 (hall k h2); omega
      ·omega
    subst hik
    refine wpOp_mono (fun a w hw'=>ih _ a w ⟨by simp[hs],hcl,.inr ⟨i+1,by omega,fun j hj=>?_,hw'⟩⟩ hcnt) (Qk0 ho hw)
    rw[hset listed i j hs hil,hE j hj]
    constructor
    ·rintro(rfl | h1)<;>omega
    ·intro h1
     rcases Nat.lt_or_ge j i with h2 | h2
     ·exact .inr h2
     ·exact .inl (by omega)
 refine main _ _ a _ ⟨by simp,fun i o hE=>?_,.inl ⟨fun k _ hE=>?_,?_⟩⟩ ?_
 ·simp only[E]at hE; simp[QI,XF]at hE
  split at hE<;>simp at hE
 ·simp only[E]at hE; simp[QI,XF]at hE
  split at hE<;>simp at hE
 ·refine hIE (fun _=>false) _ a _ (fun i hi=>?_) h0
  simp only[QI,XF]
  split<;>rfl
 grind
end
end Gx

/- One operation, with the rest of the state set aside. -/
namespace Gx
open Go Go.RowKit Gd
set_option linter.unusedVariables false
set_option linter.unusedSimpArgs false
theorem Qjx{β:Nat→Nat}{ρ:Nat→Value}:∀{M:List (Nat×Ob)} {q:Nat×Ob},We M=true→q∈M→∀{b o:Nat},(Qu β ρ q.1 q.2).blks b→(Qu β ρ q.1 q.2).cov b o
 | (k,ob)::l,q,h,hq,b,o,hb=>by
  cases ob with
  | tail e t xs=>cases h
  | _ =>
   rcases QX.1 hq with rfl | hq
   ·exact hb
   ·exact Qjx (M:=l) h hq hb
def Jrg(o:Oper)(a a':Act):Prop:=∀t,o.dst≠some t→a'.tmps[t]?=a.tmps[t]?
def Jrh(o:Oper)(a:Act)(Q:Exit→Act→World→Prop):Exit→Act→World→Prop
 | .normal,a',w'=>Jrg o a a'→Q .normal a' w'
 | e,a',w'=>Q e a' w'
theorem N4(o:Oper)(a:Act)(v:Value):Jrg o a (a.put o.dst v):=by
 intro t ht
 cases hd:o.dst with
 | none=>rfl
 | some d=>grind [Vf]
theorem Q4t{P:Program}{ops:Array Oper}{Q:Exit→Act→World→Prop}{o:Oper}{a:Act}{w:World}(h:wpList P ops (Jrh o a Q) [o] a w):wpList P ops Q [o] a w:=by
 unfold wpList at h ⊢
 split at h
 ·rename_i hw
  rw[if_pos hw]
  rcases h with h | ⟨h1,h2⟩
  ·left
   unfold Oper.wp at h ⊢
   cases hr:(execOp a.eval o).run P w with
   | ok nx w' =>
    rw[hr]at h
    cases nx with
    | value v=>exact h (N4 o a v)
    | skip=>exact h (N4 o a undef)
    | defer d =>
     refine h fun t ht=>?_
     have:=N4 o { a with defers:=d::a.defers } undef t ht
     exact this
    | enter f args =>
     refine Calls.mono h fun e w' he=>?_
     cases e with
     | returned v=>exact he (N4 o a v)
     | panicked c=>exact he
     | outgrown=>exact he
    | row r args=>exact Rows.mono h fun v w' hv=>hv (N4 o a v)
    | _=>exact h.elim
   | halt hl w' =>
    rw[hr]at h
    cases hl with
    | panic v=>exact h
    | _=>exact h.elim
  ·exact .inr ⟨h1,h2⟩
 ·rename_i hw
  rw[if_neg hw]
  exact h (N4 o a undef)
open Classical in
noncomputable def Bg(n:Nat)(O:List TL):List Nat:=(List.range n).filter fun g=>decide (∃t∈O,t.blks g)
section
variable {P:Program} {Y:TX} {X:Cx} {β:Nat→Nat} {ρ:Nat→Value} {a:Act} {w:World} {ops:Array Oper} {Q:Exit→Act→World→Prop} {o:Oper}
theorem Jj9(hG:Um Y.gl (okN X) X.w)(hr:X.res=[])(hp:X.pin=none){Ve Fe:List En}{Vm Fm:List (Nat×Ob)}{S1:St}{pr:List Nat}(h:Rel X β ρ ⟨Ve++Fe,Vm++Fm⟩ a w)(hV:We Vm=true)
    (hF:∀e∈Fe,(∀i∈Jc e.av,i∈pr)∧∀d,o.dst=some d→e.t≠d∧∀c∈e.cs,c.1≠d) (hFm:∀i∈Je Fm,i∈pr)
    (hstep:∀(X1:Cx) (Q1:Exit→Act→World→Prop),X1.n=X.n→X1.res=[]→X1.pin=none→Um Y.gl (okN X1) X1.w→Rel X1 β ρ ⟨Ve,Vm⟩ a w→(∀β' ρ' a' w',agP pr β β' ρ ρ'→Rel X1 β' ρ' S1 a' w'→Q1 .normal a' w')→wpList P ops Q1 [o] a w)
    (H:∀β' ρ' a' w',agP pr β β' ρ ρ'→Rel X β' ρ' ⟨S1.env++Fe,S1.mem++Fm⟩ a' w'→Q .normal a' w'):wpList P ops Q [o] a w:=by
  have eM:Qj β ρ (Vm++Fm)=Qj β ρ Vm++Qj β ρ Fm:=QD
  have hS:Sb (fun _=>0) X [] ((Ve++Fe).map (enD β ρ a)) [] (Qj β ρ Vm++Qj β ρ Fm) a w:=by rw[←eM]; exact h
  have hL1:∀t∈Qj β ρ Vm,∀g,t.blks g→g∈Bg w.heap.size (Qj β ρ Vm):=fun t ht g hg=>by
    unfold Bg
    exact QN.2 ⟨JH.2 (hS.olt (List.mem_append_left _ ht) hg),by grind⟩
  have hL2:∀g∈Bg w.heap.size (Qj β ρ Vm),∃t∈Qj β ρ Vm,t.blks g:=fun g hg=>by
    simp_all [Bg,QN,decide_eq_true_eq]
  have hcov:∀t∈Qj β ρ Vm,∀b o,t.blks b→t.cov b o:=fun t ht b o hb=>by
    obtain⟨q,hq,rfl⟩:=QK.1 ht
    grind [Qjx]
  have hk:∀b f,Jn X.ok X.w.heap.size (fun _=>0) [] (Qj β ρ Vm++Qj β ρ Fm) w b f→Jn (okL (Bg w.heap.size (Qj β ρ Vm)) (Jn X.ok X.w.heap.size (fun _=>0) [] (Qj β ρ Vm++Qj β ρ Fm) w)) w.heap.size (fun _=>0) [] (Qj β ρ Vm) w b f :=
    fun b f hbo=>⟨.inl (.inl hbo),hbo.2.1,by simp,fun t ht hc=>hbo.2.2.2 t (List.mem_append_left _ ht) hc⟩
  refine Q4t (hstep { cxL (Bg w.heap.size (Qj β ρ Vm)) X.n (Jn X.ok X.w.heap.size (fun _=>0) [] (Qj β ρ Vm++Qj β ρ Fm) w) w with dfs:=X.dfs } (Jrh o a Q) rfl rfl rfl ?_ ?_ fun β' ρ' a' w' hag hR hsame=>?_)
  · exact(Qa4 hS hG).weak fun b f hbo=>⟨.inl hbo,fun hbl=>by
      obtain⟨t,ht,hg⟩:=hL2 b hbl
      exact hbo.2.2.2 t (List.mem_append_left _ ht) (hcov t ht b f hg),hbo.2.1⟩
  · exact { sz:=hS.sz,df:=hS.df,fr:=by simp,pn:=by simp,tm:=by simp,bel:=Zl.refl _ _ _,obj:=by simp,dHH:=by simp,dHO:=by simp,
            dat:=Yc.2 fun x hx=>by
              obtain⟨e,he,rfl⟩:=QK.1 hx
              exact(enD β ρ a e).weak (Yc.1 hS.dat _ (QK.2 ⟨e,List.mem_append_left _ he,rfl⟩)) hk,
            own:=fun t ht=>⟨t.weak (hS.own t (List.mem_append_left _ ht)).1 hk,fun g hg=>.inr (hL1 t ht g hg)⟩,
            dOO:=(QA.1 hS.dOO).1 }
  · have hC:=Sb.callO (O1':=Qj β' ρ' S1.mem) hS hR.bel hL2 hcov (fun t ht=>⟨(hR.own t ht).1,fun g hg=>(hR.own t ht).2 g hg⟩) hR.dOO
    have hsim:Wf (Qj β ρ Fm) (Qj β' ρ' Fm):=Qxg fun i hi=>hag i (hFm i hi)
    have hC2:=hC.simO ((Wf.refl (Qj β' ρ' S1.mem)).append hsim)
    have hmem:Qj β' ρ' (S1.mem++Fm)=Qj β' ρ' S1.mem++Qj β' ρ' Fm:=QD
    have hC3:Sb (fun _=>0) X [] [] [] (Qj β' ρ' S1.mem++Qj β' ρ' Fm) a' w' :=
      { sz:=hR.sz,df:=hR.df,fr:=by rw[hr]; simp,pn:=by rw[hp]; simp,tm:=by simp,bel:=hC2.bel,dat:=trivial,obj:=by simp,own:=hC2.own,dHH:=by simp,dHO:=by simp,dOO:=hC2.dOO }
    refine H β' ρ' a' w' hag (Rel.ofSb hC3 hmem.symm fun e he=>?_)
    rcases QZ.1 he with he | he
    · have h1:=Yc.1 hR.dat _ (QK.2 ⟨e,he,rfl⟩)
      refine(enD β' ρ' a' e).weak h1 fun b f hbf=>?_
      have h2:=Qhl hS hR.bel.size hL2 b f hbf
      have h3:=((Wf.refl (Qj β' ρ' S1.mem)).append hsim).ok b f h2
      grind
    · have h1:=Yc.1 hC2.dat _ (QK.2 ⟨e,List.mem_append_right _ he,rfl⟩)
      obtain⟨hi,hd⟩:=hF e he
      have ht:∀t,(∀d,o.dst=some d→t≠d)→a'.tmps[t]?=a.tmps[t]?:=fun t ht=>hsame t fun hd=>ht t hd rfl
      have hcc:Jy a' e.cs↔Jy a e.cs:=⟨fun hc c hm=>by rw[←ht _ fun d hd'=>(hd d hd').2 c hm]; exact hc c hm,fun hc c hm=>by rw[ht _ fun d hd'=>(hd d hd').2 c hm]; exact hc c hm⟩
      have hrd:rd a' e.t=rd a e.t:=by grind [rd]
      refine⟨fun hc=>?_,?_⟩
      · obtain⟨cs,q1,q2⟩:=h1.1 (hcc.1 hc)
        refine⟨cs,by rw[hrd]; exact q1,?_⟩
        unfold okR
        rw[hmem]
        exact Hc (fun i hm=>hag i (hi i hm)) q2
      · rw[hcc,hrd]; exact h1.2
end
end Gx

/- Regions of open order by ordinary steps: what is found, what is one's own. -/
namespace Gx
open Go Go.RowKit Gd
set_option linter.unusedVariables false
set_option linter.unusedSimpArgs false
theorem Q9v{id:Nat}{e:EC}{c:Option Ob}(h:Kc id e=false):upC id e c=c:=by
 unfold Kc at h
 unfold upC
 cases hl:Qpd e.ups id with
 | none=>rfl
 | some x=>rw[hl]at h; cases h
theorem R9{E:Nat→Bool}{id:Nat}:∀{l1 l2:List EC} {j:Nat} {c:Option Ob},Yw E id (l1++l2) j c=Yw E id l2 (j+l1.length) (Yw E id l1 j c)
 | [],l2,j,c=>rfl
 | e::l1,l2,j,c=>by
  simp only[QF,Yw,R9 (l1:=l1),List.length_cons]
  rw[show j+1+l1.length=j+(l1.length+1) by omega]
theorem Oo{E E':Nat→Bool}{id:Nat}:∀{l:List EC} {j:Nat} {c:Option Ob},(∀(k:Nat) e,l[k]?=some e→Kc id e=true→E (j+k)=E' (j+k))→Yw E id l j c=Yw E' id l j c
 | [],j,c,_=>rfl
 | e0::l,j,c,h=>by
  simp only[Yw]
  have e:(bif E j then upC id e0 c else c)=(bif E' j then upC id e0 c else c):=by
   cases ht:Kc id e0 with
   | true=>rw[show E j=E' j from h 0 _ rfl ht]
   | false=>rw[Q9v ht]; cases E j<;>cases E' j<;>rfl
  rw[e]
  exact Oo fun k g hk ht=>by
   have:=h (k+1) g (by simpa using hk) ht
   rw[show j+1+k=j+(k+1) by omega]; exact this
theorem N5{E:Nat→Bool}{id:Nat}:∀{l:List EC} {j:Nat} {c:Option Ob},(∀(k:Nat) e,l[k]?=some e→Kc id e=true→E (j+k)=false)→Yw E id l j c=c
 | [],j,c,_=>rfl
 | e0::l,j,c,h=>by
  simp only[Yw]
  have e:(bif E j then upC id e0 c else c)=c:=by
   cases ht:Kc id e0 with
   | true=>rw[show E j=false from h 0 _ rfl ht]; rfl
   | false=>rw[Q9v ht]; cases E j<;>rfl
  rw[e]
  exact N5 fun k g hk ht=>by
   have:=h (k+1) g (by simpa using hk) ht
   rw[show j+1+k=j+(k+1) by omega]; exact this
theorem Q4u{acc:List EC}{i:Nat}{g:EC}(hg:acc[i]?=some g):acc=acc.take i++g::acc.drop (i+1)∧(acc.take i).length=i:=by
 have hi:i<acc.length:=(List.getElem?_eq_some_iff.1 hg).1
 rw[List.getElem?_eq_getElem hi]at hg
 grind [List.length_take,List.drop_eq_getElem_cons,List.take_append_drop]
section
variable {E:Nat→Bool} {acc:List EC} {i id:Nat} {g:EC} {c:Option Ob}
theorem Jka(hg:acc[i]?=some g)(hi:E i=false)(he:∀(j:Nat) g',acc[j]?=some g'→j<i→Kc id g'=true→E j=true)(hl:∀(j:Nat) g',acc[j]?=some g'→i<j→Kc id g'=true→E j=false) :
  Yw E id acc 0 c=Yw G6 id (acc.take i) 0 c:=by
 obtain⟨e1,e2⟩:=Q4u hg
 have e3:Yw E id acc 0 c=Yw E id (acc.take i++g::acc.drop (i+1)) 0 c:=by rw[←e1]
 rw[e3,R9,e2,QW]
 simp only[Yw,hi,cond_false]
 rw[N5 fun k g' hk ht=>hl (i+1+k) g' (by rw[JZ]at hk; exact hk) (by omega) ht]
 refine Oo fun k g' hk ht=>?_
 rw[JW]at hk
 split at hk
 ·rw[QW,he k g' hk (by omega) ht]; rfl
 ·cases hk
theorem Jkb(hg:acc[i]?=some g)(hi:E i=false)(hl:∀(j:Nat) g',acc[j]?=some g'→i<j→Kc id g'=true→E j=false) :
  Yw (Qh2 E i) id acc 0 c=upC id g (Yw E id acc 0 c):=by
 obtain⟨e1,e2⟩:=Q4u hg
 have e3:∀E,Yw E id acc 0 c=Yw E id (acc.take i++g::acc.drop (i+1)) 0 c:=fun E=>by rw[←e1]
 rw[e3,e3,R9,R9,e2,QW]
 simp only[Yw,hi,cond_false,BEq.rfl,Bool.true_or,cond_true]
 have h1:Yw (Qh2 E i) id (acc.take i) 0 c=Yw E id (acc.take i) 0 c:=Oo fun k g' hk ht=>by
  have:k<i:=by
   rw[JW]at hk
   grind
  simp only[Qh2,QW]
  rw[show(k==i)=false by simp; omega]; rfl
 have h2:∀c',Yw (Qh2 E i) id (acc.drop (i+1)) (i+1) c'=c':=fun c'=>N5 fun k g' hk ht=>by
  grind
 have h3:∀c',Yw E id (acc.drop (i+1)) (i+1) c'=c':=fun c'=>N5 fun k g' hk ht=>hl (i+1+k) g' (by rw[JZ]at hk; exact hk) (by omega) ht
 rw[h2,h3,h1]
 grind
theorem Jkc(hg:acc[i]?=some g)(ht:Kc id g=false):Yw (Qh2 E i) id acc 0 c=Yw E id acc 0 c :=
 Oo fun k g' hk ht'=>by
  rw[QW]
  by_cases e:k=i
  ·grind
  grind
theorem Qlv{E:Nat→Bool}:∀{acc:List EC} {j:Nat} {e:En},e∈Lz E acc j→∃(k:Nat) (g:EC),acc[k]?=some g∧E (j+k)=true∧g.has=true∧e=⟨g.d,[],g.av⟩
 | [],j,e,h=>by cases h
 | g::l,j,e,h=>by
  simp only[Lz]at h
  cases hb:(E j&&g.has)with
  | true =>
   rw[hb]at h
   simp only[QQ]at hb
   rcases QX.1 h with rfl | h
   ·exact⟨0,g,rfl,hb.1,hb.2,rfl⟩
   ·obtain⟨k,g',h1,h2,h3,h4⟩:=Qlv h
    exact⟨k+1,g',by simpa using h1,by rw[show j+(k+1)=j+1+k by omega]; exact h2,h3,h4⟩
  | false =>
   rw[hb]at h
   obtain⟨k,g',h1,h2,h3,h4⟩:=Qlv h
   exact⟨k+1,g',by simpa using h1,by rw[show j+(k+1)=j+1+k by omega]; exact h2,h3,h4⟩
theorem Q0c{E:Nat→Bool}:∀{acc:List EC} {j k:Nat} {g:EC},acc[k]?=some g→E (j+k)=true→g.has=true→(⟨g.d,[],g.av⟩:En)∈Lz E acc j
 | [],j,k,g,h,_,_=>by simp at h
 | g0::l,j,0,g,h,h1,h2=>by
  grind [Lz]
 | g0::l,j,k+1,g,h,h1,h2=>by
  have:=Q0c (acc:=l) (j:=j+1) (k:=k) (by simpa using h) (by rw[show j+1+k=j+(k+1) by omega]; exact h1) h2
  grind [Lz]
end
theorem Jf9{ids:List Nat}:∀{names:List Nat},ids.Nodup→names.Nodup→(∀i∈ids,i∈names)→names.Perm (ids++names.filter fun i=>!Yf ids i):=by
 induction ids with
 | nil =>
  intro names _ _ _
  have:(names.filter fun i=>!Yf [] i)=names:=List.filter_eq_self.2 fun _ _=>rfl
  rw[this]
  grind
 | cons x ids ih =>
  intro names hi hn hs
  have hi':=QT.1 hi
  obtain⟨l1,l2,rfl⟩:=List.append_of_mem (hs x (.head _))
  have hn2:(l1++l2).Nodup∧x∉l1++l2:=by
   have:=(List.perm_middle.nodup_iff (l₁:=l1++x::l2)).1 hn
   grind
  have h1:=ih (names:=l1++l2) hi'.2 hn2.1 fun i him=>by
   have:=hs i (.tail _ him)
   grind
  have e:((l1++x::l2).filter fun i=>!Yf (x::ids) i)=(l1++l2).filter fun i=>!Yf ids i:=by
   have hf:∀l:List Nat,x∉l→(l.filter fun i=>!Yf (x::ids) i)=l.filter fun i=>!Yf ids i:=fun l hx=>by
    refine List.filter_congr fun i him=>?_
    have hne:x≠i:=fun e=>hx (e▸him)
    simp only[Yf,Jwv hne,KY]
   rw[List.filter_append,XO]
   have hx0:(!Yf (x::ids) x)=false:=by simp[Yf,Nat.beq_refl]
   rw[hx0]
   grind
  rw[e]
  exact List.perm_middle.trans (List.Perm.cons x h1)
end Gx

/- One operation of a region of open order, by an ordinary step. -/
namespace Gx
open Go Go.RowKit Gd
set_option linter.unusedVariables false
set_option linter.unusedSimpArgs false
theorem Qny:∀{ids:List Nat} {M:List (Nat×Ob)},ids.Nodup→(Ju M ids).2=ids.filterMap fun t=>Kn t (Qg M t)
 | [],M,_=>rfl
 | t::ts,M,hn=>by
  have hn':=QT.1 hn
  simp only[Ju,JC]
  cases hl:Qg M t with
  | none=>simp only[Kn]; exact Qny hn'.2
  | some o =>
   simp only[Kn]
   rw[Qny (M:=J0 M t) hn'.2]
   congr 1
   exact Y5 fun j hj=>by rw[Qsv fun(e:j=t)=>hn'.1 (by rw[←e]; exact hj)]; cases Qg M j<;>rfl
theorem Qa9{f:Nat→Option Ob}{id:Nat}:∀{ids:List Nat},Qpd (ids.map fun i=>(i,f i)) id=if id∈ids then some (f id)else none
 | []=>rfl
 | k::l=>by
  simp only[QR,Qpd]
  cases hb:Nat.beq k id with
  | true =>
   have:=Nat.eq_of_beq_eq_true hb
   subst this
   simp
  | false =>
   have hne:id≠k:=fun e=>by simp_all
   simp only[cond_false,Qa9 (ids:=l),QX,hne,false_or]
section
variable {P:Program} {Y:TX} {X:Cx} {β:Nat→Nat} {ρ:Nat→Value} {a:Act} {w:World} {ops:Array Oper} {Q:Exit→Act→World→Prop} {o:Oper}
theorem Jkd(hG:Um Y.gl (okN X) X.w)(hr:X.res=[])(hp:X.pin=none){names:List Nat}{Zs Mb:List (Nat×Ob)}{acc:List EC}{E:Nat→Bool}{B Ve:List En}{i:Nat}{g:EC}{tch ro bs pr:List Nat}{S1:XS}
  (h:Rel X β ρ ⟨Lz E acc 0++B,Be names Zs acc E++Mb⟩ a w) (hg:acc[i]?=some g) (hi:E i=false) (hnn:names.Nodup) (hnd:(tch++ro++bs).Nodup) (hsub:∀id∈tch++ro++bs,id∈names)
  (hearly:∀id∈tch++ro,∀(j:Nat) g',acc[j]?=some g'→j<i→Kc id g'=true→E j=true) (hlate:∀id∈tch++ro++bs,∀(j:Nat) g',acc[j]?=some g'→i<j→Kc id g'=true→E j=false)
  (hbs:∀id∈bs,Yw E id acc 0 (Qg Zs id)=none) (hVe:∀e∈Ve,e∈Lz E acc 0++B) (hups:g.ups=(tch++bs).map fun id=>(id,Qg S1.mem id)) (hgd:g.has=true→∃cs,(⟨g.d,cs,g.av⟩:En)∈S1.env∧cs=[]) (hod:∀d,o.dst=some d→d=g.d)
  (hnt:We ((tch.filterMap fun id=>Kn id (Yw G6 id (acc.take i) 0 (Qg Zs id)))++ro.filterMap fun id=>Kn id (Yw G6 id (acc.take i) 0 (Qg Zs id)))=true)
  (hF:∀e∈Lz E acc 0++B,(∀i∈Jc e.av,i∈pr)∧∀d,o.dst=some d→e.t≠d∧∀c∈e.cs,c.1≠d) (hFm:∀id∈Je (((names.filter fun j=>!Yf (tch++ro++bs) j).filterMap fun id=>Kn id (Yw E id acc 0 (Qg Zs id)))++Mb),id∈pr)
  (hstep:∀(X1:Cx) (Q1:Exit→Act→World→Prop),X1.n=X.n→X1.res=[]→X1.pin=none→Um Y.gl (okN X1) X1.w→Rel X1 β ρ ⟨Ve,(tch.filterMap fun id=>Kn id (Yw G6 id (acc.take i) 0 (Qg Zs id)))++ro.filterMap fun id=>Kn id (Yw G6 id (acc.take i) 0 (Qg Zs id))⟩ a w→(∀β' ρ' a' w',agP pr β β' ρ ρ'→Rel X1 β' ρ' ⟨S1.env,S1.mem++(ro.filterMap fun id=>Kn id (Yw G6 id (acc.take i) 0 (Qg Zs id)))⟩ a' w'→Q1 .normal a' w')→wpList P ops Q1 [o] a w)
  (H:∀β' ρ' a' w',agP pr β β' ρ ρ'→Rel X β' ρ' ⟨Lz (Qh2 E i) acc 0++B,Be names Zs acc (Qh2 E i)++Mb⟩ a' w'→Q .normal a' w'):wpList P ops Q [o] a w:=by
 have hpart:=Jf9 hnd hnn hsub
 have hnow:∀id∈tch++ro,Yw E id acc 0 (Qg Zs id)=Yw G6 id (acc.take i) 0 (Qg Zs id):=fun id hm=>Jka hg hi (hearly id hm) (hlate id (List.mem_append_left _ hm))
 have hT:(tch.filterMap fun id=>Kn id (Yw E id acc 0 (Qg Zs id)))=tch.filterMap fun id=>Kn id (Yw G6 id (acc.take i) 0 (Qg Zs id)):=(Y5 fun id hm=>by rw[hnow id (List.mem_append_left _ hm)])
 have hR:(ro.filterMap fun id=>Kn id (Yw E id acc 0 (Qg Zs id)))=ro.filterMap fun id=>Kn id (Yw G6 id (acc.take i) 0 (Qg Zs id)):=(Y5 fun id hm=>by rw[hnow id (List.mem_append_right _ hm)])
 have hB0:(bs.filterMap fun id=>Kn id (Yw E id acc 0 (Qg Zs id)))=[]:=by
  rw[ZU]
  intro id hm
  rw[hbs id hm]; rfl
 have hpm:(Be names Zs acc E++Mb).Perm ((tch.filterMap fun id=>Kn id (Yw G6 id (acc.take i) 0 (Qg Zs id)))++(ro.filterMap fun id=>Kn id (Yw G6 id (acc.take i) 0 (Qg Zs id)))++(((names.filter fun j=>!Yf (tch++ro++bs) j).filterMap fun id=>Kn id (Yw E id acc 0 (Qg Zs id)))++Mb)):=by
  have h1:=hpart.filterMap fun id=>Kn id (Yw E id acc 0 (Qg Zs id))
  rw[JQ,JQ,JQ,hT,hR,hB0,QU]at h1
  rw[←List.append_assoc]
  exact h1.append_right Mb
 have h2:Rel X β ρ ⟨Ve++(Lz E acc 0++B),_⟩ a w:=Rel.less (Rel.permM h hpm) fun e he=>by
  grind
 refine Jj9 hG hr hp h2 hnt hF hFm hstep fun β' ρ' a' w' hag hR1=>H β' ρ' a' w' hag ?_
 have htc:∀id,Kc id g=decide (id∈tch++bs):=fun id=>by
  unfold Kc
  rw[hups,Qa9]
  by_cases hm:id∈tch++bs
  ·rw[if_pos hm]; simp[Hz,hm]
  simp_all [if_neg,Hz]
 have hup:∀id∈tch++bs,Yw (Qh2 E i) id acc 0 (Qg Zs id)=Qg S1.mem id:=fun id hm=>by
  have hm3:id∈tch++ro++bs:=by
   grind
  rw[Jkb hg hi (hlate id hm3)]
  unfold upC
  rw[hups,Qa9,if_pos hm]
 have hoff:∀id,id∉tch++bs→Yw (Qh2 E i) id acc 0 (Qg Zs id)=Yw E id acc 0 (Qg Zs id):=fun id hm=>Jkc hg (by rw[htc]; simpa using hm)
 have hnd2:=List.nodup_append.1 hnd
 have hnd3:=List.nodup_append.1 hnd2.1
 have hndtb:(tch++bs).Nodup:=by
  rw[List.nodup_append]
  grind
 have hpm2:(Be names Zs acc (Qh2 E i)++Mb).Perm ((Ju S1.mem (tch++bs)).2++(ro.filterMap fun id=>Kn id (Yw G6 id (acc.take i) 0 (Qg Zs id)))++(((names.filter fun j=>!Yf (tch++ro++bs) j).filterMap fun id=>Kn id (Yw E id acc 0 (Qg Zs id)))++Mb)):=by
  have h1:=hpart.filterMap fun id=>Kn id (Yw (Qh2 E i) id acc 0 (Qg Zs id))
  rw[JQ,JQ,JQ]at h1
  have e1:((tch.filterMap fun id=>Kn id (Yw (Qh2 E i) id acc 0 (Qg Zs id)))++(bs.filterMap fun id=>Kn id (Yw (Qh2 E i) id acc 0 (Qg Zs id))))=(Ju S1.mem (tch++bs)).2:=by
   rw[Qny hndtb,←JQ]
   grind [Y5,id]
  have e2:(ro.filterMap fun id=>Kn id (Yw (Qh2 E i) id acc 0 (Qg Zs id)))=(ro.filterMap fun id=>Kn id (Yw G6 id (acc.take i) 0 (Qg Zs id))):=by
   rw[←hR]
   refine Y5 fun id hm=>by
    rw[hoff id fun hm2=>?_]
    grind
  have e3:((names.filter fun j=>!Yf (tch++ro++bs) j).filterMap fun id=>Kn id (Yw (Qh2 E i) id acc 0 (Qg Zs id)))=(names.filter fun j=>!Yf (tch++ro++bs) j).filterMap fun id=>Kn id (Yw E id acc 0 (Qg Zs id)):=by
   refine Y5 fun id hm=>by
    rw[hoff id fun hm2=>?_]
    have h3:=(QN.1 hm).2
    grind
  rw[e2,e3]at h1
  rw[←e1,←List.append_assoc]
  refine(h1.append_right Mb).trans ?_
  refine List.Perm.append_right _ (List.Perm.append_right _ ?_)
  rw[List.append_assoc,List.append_assoc]
  exact List.Perm.append_left _ JG
 have hsp:(S1.mem++(ro.filterMap fun id=>Kn id (Yw G6 id (acc.take i) 0 (Qg Zs id)))++(((names.filter fun j=>!Yf (tch++ro++bs) j).filterMap fun id=>Kn id (Yw E id acc 0 (Qg Zs id)))++Mb)).Perm ((Ju S1.mem (tch++bs)).1++((Ju S1.mem (tch++bs)).2++(ro.filterMap fun id=>Kn id (Yw G6 id (acc.take i) 0 (Qg Zs id)))++(((names.filter fun j=>!Yf (tch++ro++bs) j).filterMap fun id=>Kn id (Yw E id acc 0 (Qg Zs id)))++Mb))):=by
  have h1:=(Kr (tch++bs) S1.mem).symm.trans JG
  have h3:=(h1.append_right (ro.filterMap fun id=>Kn id (Yw G6 id (acc.take i) 0 (Qg Zs id)))).append_right (((names.filter fun j=>!Yf (tch++ro++bs) j).filterMap fun id=>Kn id (Yw E id acc 0 (Qg Zs id)))++Mb)
  grind
 have hR2:=Rel.permM hR1 hsp
 have hR3:Rel X β' ρ' ⟨S1.env++(Lz E acc 0++B),(Ju S1.mem (tch++bs)).2++(ro.filterMap fun id=>Kn id (Yw G6 id (acc.take i) 0 (Qg Zs id)))++(((names.filter fun j=>!Yf (tch++ro++bs) j).filterMap fun id=>Kn id (Yw E id acc 0 (Qg Zs id)))++Mb)⟩ a' w':=Sb.subO hR2 ((List.sublist_append_right _ _).map _)
 refine Rel.less (Rel.permM hR3 hpm2.symm) fun e he=>?_
 rcases QZ.1 he with he | he
 ·obtain⟨k,g',q1,q2,q3,rfl⟩:=Qlv he
  rw[QW]at q2
  by_cases hki:k=i
  ·grind
  ·simp only[Qh2]at q2
   rw[show(k==i)=false by simp; omega,KY]at q2
   exact List.mem_append_right _ (List.mem_append_left _ (Q0c q1 (by rw[QW]; exact q2) q3))
 grind
end
end Gx

/- A region of open order by ordinary steps: the interpreter. -/
namespace Gx
open Go Go.RowKit Gd
set_option linter.unusedVariables false
set_option linter.unusedSimpArgs false
theorem Qxk:∀{acc:List EC} {t:Nat} {v:AV},Qlk acc t=some v→∃g∈acc,g.d=t∧g.has=true∧g.av=v
 | [],t,v,h=>by simp[Qlk]at h
 | g::l,t,v,h=>by
  simp only[Qlk]at h
  cases hb:(Nat.beq g.d t&&g.has)with
  | true =>
   rw[hb]at h
   simp_all
  | false =>
   rw[hb]at h
   obtain⟨g',h1,h2⟩:=Qxk h
   grind
theorem Qba{l0:List Oper}{ds:List Nat}{i:Nat}{acc:List EC}{B:List En}:∀{ts:List Nat} {e:En},e∈Qsl l0 ds i acc B ts →
  (e.cs=[]∧Qlk acc e.t=some e.av∧Jbp l0 i (ds.idxOf e.t)=true)∨e∈B
 | [],e,h=>by
  grind [Qlr,Qsl]
 | t::ts,e,h=>by
  simp only[Qsl]at h
  split at h
  ·rename_i v hv
   cases hp:Jbp l0 i (ds.idxOf t)with
   | true =>
    rw[hp]at h
    rcases QX.1 h with rfl | h
    ·grind
    ·exact Qba h
   | false=>rw[hp]at h; exact Qba h
  ·cases hb:Qo2 ds t with
   | true =>
    rw[hb]at h
    simp only[cond_true]at h
    split at h
    ·rename_i t' v he
     obtain⟨h1,h2⟩:=Zo he
     rcases QX.1 h with rfl | h
     ·exact .inr h1
     ·exact Qba h
    ·exact Qba h
   | false=>rw[hb]at h; exact Qba h
theorem Io{l m:List Nat}(h:Qd3 l m=true){x:Nat}(h1:x∈l)(h2:x∈m):False:=by
 have:=QP.1 h x h1
 rw[Qls h2]at this; cases this
section
variable {R:Type} (Y:TX) (K:List Con) (n:Nat) (l0:List Oper) (ds:List Nat) (Zs:List (Nat×Ob)) (B:List En) (prA:List Nat)
def TrC:List HD→List Oper→Nat→List EC→List EC→Prop
 | [],[],_,_,[]=>True
 | hc::hs,o::l,i,acc,g::acc2=>(∃S1,Y3 (R:=XS) Y K n l0 hc.h [o] (Qsm l0 ds Zs B prA hc o i acc) some=some S1∧Qju n ds Zs hc o i acc S1=some g)∧TrC hs l (i+1) (acc++[g]) acc2
 | _,_,_,_,_=>False
end
section
variable {R:Type} {r:R} {Y:TX} {K:List Con} {n:Nat} {l0:List Oper} {ds:List Nat} {Zs:List (Nat×Ob)} {B:List En} {prA:List Nat}
theorem Qtg{acc:List EC}{t:Nat}{b:Bool}(h:Qlk acc t=some (.d .bool b)):Q33 acc t b=acc:=by
 induction acc with
 | nil=>rfl
 | cons g l ih =>
  simp only[Qlk]at h
  simp only[Q33]
  cases hb:(Nat.beq g.d t&&g.has)with
  | true =>
   rw[hb]at h
   simp only[cond_true,Option.some.injEq]at h
   obtain⟨gd,gv,gh,gu⟩:=g
   grind
  | false =>
   rw[hb]at h
   grind
theorem Qrd:∀{ht:HT} {l:List Oper} {i:Nat} {hs:List HD} {acc:List EC} {k:Hn→List HD→List EC→Option R},Qsn Y K n l0 ds Zs B prA ht l i hs acc k=some r →
  ∃h hs2 acc2,k h (hs++hs2) (acc++acc2)=some r∧TrC Y K n l0 ds Zs B prA hs2 l i acc acc2∧∀x∈Xi hs2,x∈Di ht
 | .tl h,[],i,hs,acc,k,hr=>⟨h,[],[],by grind [Qsn],trivial,by simp[Xi]⟩
 | .tl h,_::_,i,hs,acc,k,hr=>by simp[Qsn]at hr
 | .op hc t,[],i,hs,acc,k,hr=>by simp[Qsn]at hr
 | .op hc t,o::l,i,hs,acc,k,hr=>by
  simp only[Qsn]at hr
  obtain⟨S1,h1,h2⟩:=Qss hr
  split at h1
  ·rename_i g hg
   obtain⟨h,hs2,acc2,h3,h4,h5⟩:=Qrd h1
   refine⟨h,hc::hs2,g::acc2,by simpa using h3,⟨⟨S1,h2,hg⟩,h4⟩,fun x hx=>?_⟩
   rcases QZ.1 hx with hx | hx
   ·exact List.mem_append_left _ hx
   ·exact List.mem_append_right _ (h5 x hx)
  ·cases h1
 | .so t a b,l,i,hs,acc,k,hr=>by
  simp only[Qsn]at hr
  split at hr
  ·rename_i v hv
   cases v with
   | true =>
    rw[if_pos rfl,Qtg hv]at hr
    obtain⟨h,hs2,acc2,h3,h4,h5⟩:=Qrd hr
    exact⟨h,hs2,acc2,h3,h4,fun x hx=>List.mem_append_left _ (h5 x hx)⟩
   | false =>
    rw[if_neg (by simp),Qtg hv]at hr
    obtain⟨h,hs2,acc2,h3,h4,h5⟩:=Qrd hr
    exact⟨h,hs2,acc2,h3,h4,fun x hx=>List.mem_append_right _ (h5 x hx)⟩
  ·cases hr
theorem TrC.get:∀{hs:List HD} {l:List Oper} {i:Nat} {acc acc2:List EC},TrC Y K n l0 ds Zs B prA hs l i acc acc2→acc2.length=l.length∧hs.length=l.length∧∀(j:Nat) o,l[j]?=some o→∃g hc S1,acc2[j]?=some g∧hs[j]?=some hc ∧
  Y3 (R:=XS) Y K n l0 hc.h [o] (Qsm l0 ds Zs B prA hc o (i+j) (acc++acc2.take j)) some=some S1∧Qju n ds Zs hc o (i+j) (acc++acc2.take j) S1=some g
 | [],[],i,acc,[],_=>⟨rfl,rfl,by simp⟩
 | [],[],i,acc,_::_,h=>h.elim
 | [],_::_,i,acc,_,h=>by simp[TrC]at h
 | _::_,[],i,acc,_,h=>by simp[TrC]at h
 | _::_,_::_,i,acc,[],h=>by simp[TrC]at h
 | hc::hs,o::l,i,acc,g::acc2,h=>by
  obtain⟨⟨S1,q1,q2⟩,h0⟩:=h
  obtain⟨h2,h2',h3⟩:=TrC.get h0
  refine⟨by simp[h2],by simp[h2'],fun j o' ho=>?_⟩
  cases j with
  | zero =>
   grind
  | succ j =>
   grind
end
end Gx

/- A region of open order by ordinary steps. -/
namespace Gx
open Go Go.RowKit Gd
set_option linter.unusedVariables false
set_option linter.unusedSimpArgs false
theorem N6{n:Nat}{ds:List Nat}{Zs:List (Nat×Ob)}{hc:HD}{o:Oper}{i:Nat}{acc:List EC}{S1:XS}{g:EC}(h:Qju n ds Zs hc o i acc S1=some g) :
  We (Qiz hc.tch Zs acc++Qiz hc.ro Zs acc)=true∧Hb hc.nm (Je S1.mem)=true∧(g.ups=(hc.tch++hc.bs).map fun id=>(id,Qg S1.mem id))∧ds.getD i 0=g.d∧Hb hc.nm (Jc g.av)=true∧(∀d,o.dst=some d→d=g.d∧d<n)∧(g.has=true→∃cs,(⟨g.d,cs,g.av⟩:En)∈S1.env∧cs=[])∧(o.dst=none→n≤1000000000→n≤g.d):=by
 unfold Qju at h
 obtain⟨hb,h⟩:=bvT h
 simp only[QQ]at hb
 split at h
 ·rename_i d hd
  split at h
  ·rename_i t av hl
   obtain⟨hb2,h⟩:=bvT h
   simp only[QQ]at hb2
   simp only[Option.some.injEq]at h
   subst h
   obtain⟨hm,ht⟩:=Zo hl
   simp_all
  ·cases h
 ·rename_i hd
  obtain⟨hb2,h⟩:=bvT h
  simp only[Option.some.injEq]at h
  subst h
  exact⟨hb.1,hb.2,rfl,Nat.eq_of_beq_eq_true hb2,(by trivial),(fun d' hd'=>by rw[hd]at hd'; cases hd'),(fun h=>by cases h),fun _ hn=>by grind⟩
theorem Qfj:∀{l m:List (Nat×Ob)} {i:Nat},i∈Je (l++m)→i∈Je l∨i∈Je m
 | [],m,i,h=>.inr h
 | (k,ob)::l,m,i,h=>by
  have key:∀{xs:List Nat},i∈xs++Je (l++m)→i∈xs++Je l∨i∈Je m:=fun {xs} h=>by
   rcases QZ.1 h with h | h
   ·grind
   ·exact(Qfj h).imp (List.mem_append_right _) id
  cases ob with
  | var t c=>grind [Jc,Je,id]
  | mapC a b xs hole =>
   cases hole with
   | none=>exact key (xs:=[k]) (by simpa[Je]using h) |>.imp (by simp[Je]) id
   | some q=>exact key (xs:=[k,q.2]) (by grind [Je]) |>.imp (by simp[Je]) id
  | mapE k1 v1 xs1 key1 j=>exact key (xs:=[k,j]) (by grind [Je]) |>.imp (by simp[Je]) id
  | _=>exact key (xs:=[k]) (by simpa[Je]using h) |>.imp (by simp[Je]) id
theorem Qth{f:Nat→Option Ob}{i:Nat}:∀{ids:List Nat},i∈Je (ids.filterMap fun id=>Kn id (f id))→∃id∈ids,∃ob,f id=some ob∧i∈Je [(id,ob)]
 | [],h=>by cases h
 | id::ids,h=>by
  simp only[JC]at h
  cases hf:f id with
  | none =>
   rw[hf]at h
   obtain⟨id',h1,ob,h2,h3⟩:=Qth (ids:=ids) h
   grind
  | some ob =>
   rw[hf]at h
   rcases Qfj (l:=[(id,ob)]) h with h | h
   ·grind
   ·obtain⟨id',h1,ob',h2,h3⟩:=Qth (ids:=ids) h
    grind
theorem Qxl{M:List (Nat×Ob)}{id i:Nat}{ob:Ob}:Qg M id=some ob→i∈Je [(id,ob)]→i∈Je M:=by
 intro h hi
 obtain⟨l1,l2,e,w1,w2⟩:=Jj h
 rw[e]
 clear e h w1 w2
 induction l1 with
 | nil =>
  have key:∀{xs ys:List Nat},i∈xs++[]→i∈xs++ys:=fun h=>List.mem_append_left _ (by simpa using h)
  cases ob with
  | var t c=>have:=key (xs:=id::Jc c) (ys:=Je l2) (by grind [Je]); grind [Je]
  | mapC a b xs hole =>
   cases hole with
   | none=>have:=key (xs:=[id]) (ys:=Je l2) (by simp_all [Je]); simp_all [Je]
   | some q=>have:=key (xs:=[id,q.2]) (ys:=Je l2) (by grind [Je]); grind [Je]
  | mapE k1 v1 xs1 key1 j=>have:=key (xs:=[id,j]) (ys:=Je l2) (by grind [Je]); grind [Je]
  | _=>have:=key (xs:=[id]) (ys:=Je l2) (by simpa[Je]using hi); grind [Je]
 | cons q l ih =>
  obtain⟨k,x⟩:=q
  cases x with
  | var t c=>grind [Je,List.mem_append_right]
  | mapC a b xs hole =>
   cases hole with
   | none=>simp_all [QF,Je]
   | some q=>grind [Je]
  | mapE k1 v1 xs1 key1 j=>grind [Je]
  | _=>grind [Je]
theorem Q4v{E:Nat→Bool}{id:Nat}{ob:Ob}:∀{l:List EC} {j:Nat} {c:Option Ob},Yw E id l j c=some ob→c=some ob∨∃(k:Nat) (g:EC),l[k]?=some g∧E (j+k)=true∧Qpd g.ups id=some (some ob)
 | [],j,c,h=>.inl h
 | g0::l,j,c,h=>by
  simp only[Yw]at h
  rcases Q4v h with h1 | ⟨k,g,h1,h2,h3⟩
  ·cases hE:E j with
   | false=>rw[hE]at h1; exact .inl h1
   | true =>
    rw[hE]at h1
    simp only[cond_true,upC]at h1
    cases hl:Qpd g0.ups id with
    | none=>rw[hl]at h1; exact .inl h1
    | some x=>rw[hl]at h1; simp only at h1; subst h1; exact .inr ⟨0,g0,rfl,hE,hl⟩
  ·exact .inr ⟨k+1,g,by simpa using h1,by rw[show j+(k+1)=j+1+k by omega]; exact h2,h3⟩
end Gx

/- A region of open order by ordinary steps: sound. -/
namespace Gx
open Go Go.RowKit Gd
set_option linter.unusedVariables false
set_option linter.unusedSimpArgs false
theorem Qxm:∀{hs:List HD} {i:Nat},(∃hc∈hs,i∈hc.bs)→i∈Xi hs
 | [],i,⟨_,h,_⟩=>by cases h
 | h::l,i,⟨hc,hm,hi⟩=>by
  rcases QX.1 hm with rfl | hm
  ·exact List.mem_append_left _ hi
  ·exact List.mem_append_right _ (Qxm ⟨hc,hm,hi⟩)
theorem Q9w{l0:List Oper}{hs:List HD}(h:Jwo l0 hs=true){i j:Nat}{hi hj:HD}(h1:hs[i]?=some hi)(h2:hs[j]?=some hj)(hji:j<i):Qll l0 i j hi hj=true:=by
 have hil:=(List.getElem?_eq_some_iff.1 h1).1
 have:=QP.1 (QP.1 h i (JH.2 hil)) j (JH.2 hji)
 rw[h1,h2]at this
 exact this
theorem Jwx{l0:List Oper}{hs:List HD}(h:nmB l0 hs=true){i j:Nat}{hi hj:HD}(h1:hs[i]?=some hi)(h2:hs[j]?=some hj)(hji:i≠j):Qd3 hi.bs hj.nm=true∨A7 l0 l0.length j i=true:=by
 have hil:=(List.getElem?_eq_some_iff.1 h1).1
 have hjl:=(List.getElem?_eq_some_iff.1 h2).1
 have:=QP.1 (QP.1 h i (JH.2 hil)) j (JH.2 hjl)
 rw[h1,h2]at this
 simp_all
theorem Qxn{m:List (Nat×Ob)}{i:Nat}:∀{l:List (Nat×Ob)},i∈Je l→i∈Je (l++m)
 | [],h=>by cases h
 | (k,x)::l,h=>by
  have key:∀{xs:List Nat},i∈xs++Je l→i∈xs++Je (l++m):=fun {xs} h=>by
   rcases QZ.1 h with h | h
   ·grind
   ·exact List.mem_append_right _ (Qxn h)
  cases x with
  | var t c=>have:=key (xs:=k::Jc c) (by grind [Je]); grind [Je]
  | mapC a b xs hole =>
   cases hole with
   | none=>have:=key (xs:=[k]) (by simpa[Je]using h); simp_all [Je]
   | some q=>have:=key (xs:=[k,q.2]) (by grind [Je]); grind [Je]
  | mapE k1 v1 xs1 key1 j=>have:=key (xs:=[k,j]) (by grind [Je]); grind [Je]
  | _=>have:=key (xs:=[k]) (by simpa[Je]using h); grind [Je]
theorem Qti{m:List (Nat×Ob)}{i:Nat}(h:i∈Je m):∀{l:List (Nat×Ob)},i∈Je (l++m)
 | []=>h
 | (k,x)::l=>by
  have ih:=Qti h (l:=l)
  cases x with
  | var t c=>grind [Je,List.mem_append_right]
  | mapC a b xs hole =>
   cases hole with
   | none=>simp_all [QF,Je]
   | some q=>grind [Je]
  | mapE k1 v1 xs1 key1 j=>grind [Je]
  | _=>grind [Je]
theorem Qtj{E E':Nat→Bool}:∀{acc:List EC} {j:Nat},(∀k,k<acc.length→E (j+k)=E' (j+k))→Lz E acc j=Lz E' acc j
 | [],_,_=>rfl
 | g::l,j,h=>by
  have h0:=h 0 (by simp)
  rw[JT]at h0
  have ih:Lz E l (j+1)=Lz E' l (j+1):=Qtj fun k hk=>by
   have:=h (k+1) (by grind)
   rwa[show j+(k+1)=j+1+k by omega]at this
  grind [Lz]
theorem Qxo:∀{acc:List EC} {j:Nat},Lz (fun _=>false) acc j=[]
 | [],_=>rfl
 | g::l,j=>by simp only[Lz,Bool.false_and,cond_false]; exact Qxo
theorem Jga{Zs:List (Nat×Ob)}{bs:List Nat}{acc:List EC}(hN:(Vq Zs++bs).Nodup):Be (Vq Zs++bs) Zs acc (fun _=>false)=Zs:=by
 unfold Be
 have h0:∀id c,Yw (fun _=>false) id acc 0 c=c:=fun id c=>N5 fun _ _ _ _=>rfl
 obtain⟨n1,n2,n3⟩:=List.nodup_append.1 hN
 rw[JQ]
 have e2:(bs.filterMap fun id=>Kn id (Yw (fun _=>false) id acc 0 (Qg Zs id)))=[]:=by
  rw[ZU]
  intro d hd
  rw[h0]
  cases hl:Qg Zs d with
  | none=>rfl
  | some ob=>exact absurd rfl (n3 d (Qfh (by rw[hl]; rfl)) d hd)
 rw[e2,QU]
 unfold Vq
 rw[List.filterMap_map]
 simp_all [Y5,KV,Function.comp,Qjw,Kn]
section
variable {P:Program} {Y:TX} {X:Cx} {K:List Con} {n:Nat} {l0:List Oper} {ds:List Nat} {Zs Mb:List (Nat×Ob)} {B:List En} {prA prB:List Nat} {R:Type} {r:R} {β:Nat→Nat} {ρ:Nat→Value} {a:Act} {w:World}
theorem Q9x(hT:Qy P Y.T)(hmix:P.follows .mixedOrders=true)(hK:KsX P Y X K)(hX:X.n=n)(hr:X.res=[])(hp:X.pin=none){ht:HT}{p:Nat}(h:Rel X β ρ ⟨B,Zs++Mb⟩ a w)
  (hBt:∀e∈B,∀d∈ds,d<n→e.t≠d∧∀c∈e.cs,c.1≠d) (hBi:∀e∈B,∀i∈Jc e.av,i∈prB) (hMi:∀i∈Je (Zs++Mb),i∈prB)
  (hb:Jb5 l0 p ds=true) {k:Hn→List HD→List EC→Option R} (hs:Qsn Y K n l0 ds Zs B prA ht (l0.take p) 0 [] [] k=some r)
  (hch:∀h hs0 acc,k h hs0 acc=some r→Jpa l0 (Vq Zs) prB prA hs0=true) (hpA:∀i∈prB,i∈prA) {id:Nat} {Q:Exit→Act→World→Prop}
  (H:∀β' ρ' a' w' h hs0 acc,k h hs0 acc=some r→(∀(x:Nat),(∀hc∈hs0,x∉hc.wr)→∀g∈acc,Kc x g=false)→(∀x∈Xi hs0,x∈Di ht)→agP prB β β' ρ ρ'→Rel X β' ρ' ⟨Lz G6 acc 0++B,Be (Vq Zs++Xi hs0) Zs acc G6++Mb⟩ a' w'→wpList P ⟨l0⟩ Q (l0.drop p) a' w'):(Code.region id ⟨l0⟩ true).wp P Q a w:=by
 unfold Jb5 at hb
 simp only[QQ]at hb
 obtain⟨⟨⟨⟨hple,hlen⟩,hback⟩,hfin⟩,hndB⟩:=hb
 have hnd:=Qwp hndB
 have hpl:=QV hple
 have hdl:=Nat.eq_of_beq_eq_true hlen
 obtain⟨hn,hs0,acc,hk,htr,hbT⟩:=Qrd hs
 simp only[QE]at hk
 have hchk:=hch _ _ _ hk
 unfold Jpa at hchk
 simp only[QQ]at hchk
 obtain⟨⟨⟨⟨⟨hcf,hnm⟩,hNb⟩,hapB⟩,hNAb⟩,hall0⟩:=hchk
 have hN:=Qa8 hNb
 have hNA:∀i∈Vq Zs++Xi hs0,i∈prA:=fun i hi=>Ao hNAb i hi
 have hprB:∀i∈prB,i∈prA∧i∉Xi hs0:=fun i hi=>⟨hpA i hi,fun h2=>Io hapB hi h2⟩
 have hal0:∀hc∈hs0,Oh hc.al=true∧Hb (Vq Zs++Xi hs0) hc.al=true∧Hb prA hc.nm=true:=fun hc hm=>by
  have:=QP.1 hall0 hc hm
  grind
 have hNm:∀hc∈hs0,∀i∈hc.nm,i∈prA:=fun hc hm i hi=>Ao (hal0 hc hm).2.2 i hi
 have hal:∀hc∈hs0,(hc.tch++hc.ro++hc.bs).Nodup∧∀i∈hc.tch++hc.ro++hc.bs,i∈Vq Zs++Xi hs0:=fun hc hm=>⟨Qa8 (hal0 hc hm).1,fun i hi=>Ao (hal0 hc hm).2.1 i hi⟩
 obtain⟨hal1,hal2,hall⟩:=htr.get
 have hap:acc.length=p:=by rw[hal1,List.length_take]; omega
 simp only[QE,QW]at hall
 have hget:∀(i:Nat) o,i<p→l0[i]?=some o→∃g hc S1,acc[i]?=some g∧hs0[i]?=some hc∧Y3 (R:=XS) Y K n l0 hc.h [o] (Qsm l0 ds Zs B prA hc o i (acc.take i)) some=some S1∧Qju n ds Zs hc o i (acc.take i) S1=some g:=fun i o hi ho=>hall i o (by rw[JW,if_pos hi]; exact ho)
 have hof:∀(j:Nat) g,acc[j]?=some g→j<p∧∃o hc S1,l0[j]?=some o∧hs0[j]?=some hc∧Qju n ds Zs hc o j (acc.take j) S1=some g:=fun j g hg=>by
  have hj:j<p:=by have:=(List.getElem?_eq_some_iff.1 hg).1; omega
  obtain⟨g',hc,S1,q1,q2,_,q4⟩:=hget j l0[j] hj (List.getElem?_eq_getElem (by omega))
  rw[hg]at q1; grind
 have htch:∀(j:Nat) g hc x,acc[j]?=some g→hs0[j]?=some hc→Kc x g=true→x∈hc.wr:=fun j g hc x hg hh ht=>by
  obtain⟨_,o,hc',S1,_,q2,q3⟩:=hof j g hg
  rw[hh]at q2; injection q2 with q2; subst q2
  unfold Kc at ht
  rw[(N6 q3).2.2.1,Qa9]at ht
  by_cases hm:x∈hc.tch++hc.bs
  ·exact hm
  simp_all [if_neg,Hz]
 have hdsj:∀(j:Nat) g,acc[j]?=some g→ds[j]?=some g.d:=fun j g hg=>by
  obtain⟨hj,o,hc,S1,_,_,q3⟩:=hof j g hg
  exact Jf5 (by omega) (N6 q3).2.2.2.1
 have hno:∀(x:Nat),(∀hc∈hs0,x∉hc.wr)→∀g∈acc,Kc x g=false:=fun x hx g hg=>by
  grind [List.getElem?_of_mem,Kc,absurd,List.mem_of_getElem?]
 refine Q9u (fun E a w=>∃β' ρ',agP prB β β' ρ ρ'∧Rel X β' ρ' ⟨Lz E acc 0++B,Be (Vq Zs++Xi hs0) Zs acc E++Mb⟩ a w) hmix p (fun E E' a w hE ⟨β',ρ',q1,q2⟩=>⟨β',ρ',q1,?_⟩) hple hback hfin ⟨β,ρ,agP.refl _ _ _,?_⟩ (fun E i o a w Q' hip ho hcl hEi hpre ⟨β1,ρ1,hag,hR⟩ hQ=>?_) fun a' w' ⟨β',ρ',q1,q2⟩=>H β' ρ' a' w' hn hs0 acc hk hno hbT q1 q2
 ·have e1:Lz E acc 0=Lz E' acc 0:=Qtj fun k hk=>by rw[QW]; grind
  have e2:Be (Vq Zs++Xi hs0) Zs acc E=Be (Vq Zs++Xi hs0) Zs acc E':=Y5 fun id _=>by
   rw[Oo (E:=E) (E':=E') fun k e hk _=>by rw[QW]; grind]
  rw[e1,e2]at q2
  exact q2
 ·rw[Qxo,Jga hN]
  exact Sb.below h ((Below.refl _ _).drew)
 ·obtain⟨g,hc,S1,hg,hhc,hrun,hst⟩:=hget i o hip ho
  obtain⟨t1,t2,t3,t4,t5,t6,t7,t8⟩:=N6 hst
  obtain⟨al1,al2⟩:=hal hc (List.mem_of_getElem? hhc)
  have hlateB:∀j,A7 l0 l0.length j i=true→E j=false:=fun j hbj=>by
   cases hE:E j with
   | false=>rfl
   | true =>
    have:E i=true:=Qau hcl l0.length j i hbj fun o' ho' e he hb'=>hcl j o' hE ho' e he hb'
    rw[hEi]at this; cases this
  have hearB:∀j,A7 l0 l0.length i j=true→E j=true:=fun j hbj=>Qau hcl l0.length i j hbj fun o' ho' e he hb'=>by rw[ho]at ho'; grind
  have hlate:∀id∈hc.tch++hc.ro++hc.bs,∀(j:Nat) g',acc[j]?=some g'→i<j→Kc id g'=true→E j=false:=fun id hm j g' hj hij ht=>by
   obtain⟨hjp,oj,hcj,S1j,p1,p2,p3⟩:=hof j g' hj
   have hw:=htch j g' hcj id hj p2 ht
   have hse:=Q9w hcf p2 hhc hij
   unfold Qll at hse
   simp only[QQ,JS]at hse
   rcases hse.1 with⟨s1,s2⟩ | s1
   ·exfalso
    rcases QZ.1 hm with hm | hm
    ·rcases QZ.1 hm with hm | hm
     ·exact Io s1 (List.mem_append_left _ hm:id∈hc.wr) (by
       rcases QZ.1 hw with q | q
       ·exact List.mem_append_left _ (List.mem_append_left _ q)
       ·exact List.mem_append_right _ q)
     grind [Io]
    ·exact Io s1 (List.mem_append_right _ hm:id∈hc.wr) (by
       rcases QZ.1 hw with q | q
       ·exact List.mem_append_left _ (List.mem_append_left _ q)
       ·exact List.mem_append_right _ q)
   grind
  have hearly:∀id∈hc.tch++hc.ro,∀(j:Nat) g',acc[j]?=some g'→j<i→Kc id g'=true→E j=true:=fun id hm j g' hj hij ht=>by
   obtain⟨hjp,oj,hcj,S1j,p1,p2,p3⟩:=hof j g' hj
   have hw:=htch j g' hcj id hj p2 ht
   have hse:=Q9w hcf hhc p2 hij
   unfold Qll at hse
   simp only[QQ,JS]at hse
   rcases hse.1 with⟨s1,s2⟩ | s1
   ·exact(Io s1 hw (List.mem_append_left _ hm)).elim
   grind
  have hbsA:∀id∈hc.bs,id∈Xi hs0:=fun id hm=>Qxm ⟨hc,List.mem_of_getElem? hhc,hm⟩
  have hbs:∀id∈hc.bs,Yw E id acc 0 (Qg Zs id)=none:=fun id hm=>by
   have hz:Qg Zs id=none:=by
    cases hl:Qg Zs id with
    | none=>rfl
    | some ob=>exact absurd rfl ((List.nodup_append.1 hN).2.2 id (Qfh (by rw[hl]; rfl)) id (hbsA id hm))
   rw[hz]
   refine N5 fun j g' hj ht=>?_
   rw[QW]
   rcases Nat.lt_trichotomy j i with hji | hji | hji
   ·obtain⟨hjp,oj,hcj,S1j,p1,p2,p3⟩:=hof j g' hj
    have hse:=Q9w hcf hhc p2 hji
    unfold Qll at hse
    simp only[QQ]at hse
    grind [Io,id]
   ·rw[hji]; exact hEi
   grind
  have hprs:∀x∈prB,x∈Qlm prA hc.bs:=fun x hx=>by
   obtain⟨q1,q2⟩:=hprB x hx
   refine QN.2 ⟨q1,?_⟩
   grind [Yf,absurd,Qlq]
  have hnmj:∀(j:Nat) g',acc[j]?=some g'→E j=true→∀hcj,hs0[j]?=some hcj→∀x∈hcj.nm,x∈Qlm prA hc.bs:=fun j g' hj hE hcj p2 x hx=>by
   refine QN.2 ⟨hNm hcj (List.mem_of_getElem? p2) x hx,?_⟩
   cases hm:Yf hc.bs x with
   | false=>rfl
   | true =>
    have hij:i≠j:=fun e=>by grind
    rcases Jwx hnm hhc p2 hij with q | q
    ·grind [Io,Qlq]
    grind
  refine Jkd hK.2 hr hp (S1:=S1) (tch:=hc.tch) (ro:=hc.ro) (bs:=hc.bs) (pr:=Qlm prA hc.bs) (Ve:=Qsl l0 ds i (acc.take i) B (Q9j o++gTs l0 o)) hR hg hEi hN al1 al2 hearly hlate hbs (fun e he=>?_) t3 t7 (fun d hd=>(t6 d hd).1) t1 (fun e he=>?_) (fun x hx=>?_) (fun X1 Q1 x1 x2 x3 x4 x5 x6=>?_) fun β' ρ' a' w' y1 y2=>hQ a' w' ⟨β',ρ',agP.trans hag fun x hx=>y1 x (hprs x hx),y2⟩
  ·rcases Qba he with⟨v1,v2,v3⟩ | v1
   ·obtain⟨g',m1,m2,m3,m4⟩:=Qxk v2
    obtain⟨j,hj⟩:=List.getElem?_of_mem m1
    rw[JW]at hj
    split at hj
    ·rename_i hji
     have hd':=hdsj j g' hj
     have hix:ds.idxOf e.t=j:=by
      have hjl:=(List.getElem?_eq_some_iff.1 hd').1
      have:=hnd.idxOf_getElem j hjl
      rw[(List.getElem?_eq_some_iff.1 hd').2,m2]at this
      exact this
     rw[hix]at v3
     have hEj:E j=true:=by
      simp only[Jbp,ho]at v3
      obtain⟨e',he',hb'⟩:=List.any_eq_true.1 v3
      simp only[QQ]at hb'
      rw[←Nat.eq_of_beq_eq_true hb'.2]
      grind
     refine List.mem_append_left _ ?_
     have:=Q0c (E:=E) (acc:=acc) (j:=0) (k:=j) hj (by rw[QW]; exact hEj) m3
     obtain⟨et,ecs,eav⟩:=e
     grind
    ·cases hj
   grind
  ·rcases QZ.1 he with he | he
   ·obtain⟨j,g',q1,q2,q3,rfl⟩:=Qlv he
    rw[QW]at q2
    obtain⟨hjp,oj,hcj,S1j,p1,p2,p3⟩:=hof j g' q1
    refine⟨fun x hx=>hnmj j g' q1 q2 hcj p2 x (Ao (N6 p3).2.2.2.2.1 x hx),fun d hd=>⟨fun e=>?_,by simp⟩⟩
    have e1:=(t6 d hd).1
    have d1:=hdsj j g' q1
    have d2:=hdsj i g hg
    have hij:j=i:=by
     obtain⟨b1,c1⟩:=List.getElem?_eq_some_iff.1 d1
     obtain⟨b2,c2⟩:=List.getElem?_eq_some_iff.1 d2
     have a1:=hnd.idxOf_getElem j b1
     have a2:=hnd.idxOf_getElem i b2
     rw[show ds[j]=ds[i]from c1.trans (e.trans (e1.trans c2.symm))]at a1
     grind
    rw[hij,hEi]at q2; cases q2
   grind
  ·rcases Qfj hx with hx | hx
   ·obtain⟨id,h1,ob,h2,h3⟩:=Qth hx
    rcases Q4v h2 with h6 | ⟨j,g',q1,q2,q3⟩
    ·exact hprs x (hMi x (Qxn (Qxl h6 h3)))
    ·rw[QW]at q2
     obtain⟨hjp,oj,hcj,S1j,p1,p2,p3⟩:=hof j g' q1
     refine hnmj j g' q1 q2 hcj p2 x (Ao (N6 p3).2.1 x ?_)
     rw[(N6 p3).2.2.1,Qa9]at q3
     split at q3
     ·exact Qxl (Option.some.inj q3) h3
     ·cases q3
   grind [Qti]
  ·have hflat:(Qsm l0 ds Zs B prA hc o i (acc.take i)).flat=⟨Qsl l0 ds i (acc.take i) B (Q9j o++gTs l0 o),Qiz hc.tch Zs (acc.take i)++Qiz hc.ro Zs (acc.take i)⟩:=by
    simp only[XS.flat,Qsm,QU]
   have:=Vs hT (X:=X1) ⟨hK.1,x4⟩ (x1.trans hX) x2 (Q:=Q1) hc.h (l:=[o]) (rest:=[]) (S:=Qsm l0 ds Zs B prA hc o i (acc.take i)) (a:=a) (w:=w) (by rw[hflat]; exact x5) hrun fun β' ρ' S' a' w' k1 k2 k3=>by
    simp only[Option.some.injEq]at k1
    subst k1
    have kf:S'.fix=[]:=k2.fix
    have km:S'.fixM=Qiz hc.ro Zs (acc.take i):=k2.fixM
    refine x6 β' ρ' a' w' k2.ag ?_
    have e:S'.flat=⟨S'.env,S'.mem++Qiz hc.ro Zs (acc.take i)⟩:=by simp only[XS.flat,kf,km,QU]
    rw[e]at k3
    exact k3
   simpa using this
end
end Gx

/- A region of open order by ordinary steps, as the interpreter walks it. -/
namespace Gx
open Go Go.RowKit Gd
set_option linter.unusedVariables false
set_option linter.unusedSimpArgs false
theorem Qfk{M:List (Nat×Ob)}:∀{B:List En} {e:En},e∈Jfl M B→∃e0∈B,e=⟨e0.t,e0.cs,Te M e0.av⟩
 | [],e,h=>by cases h
 | e0::l,e,h=>by
  simp only[Jfl]at h
  cases hb:Qz0 M (Qwy e0.av)with
  | true =>
   rw[hb]at h
   rcases QX.1 h with rfl | h
   ·grind
   ·obtain⟨e1,h1,h2⟩:=Qfk h
    grind
  | false =>
   rw[hb]at h
   obtain⟨e1,h1,h2⟩:=Qfk h
   grind
theorem Jri{α:Type}(a b c d:List α):((a++b)++(c++d)).Perm ((a++c)++(b++d)):=by
 rw[List.append_assoc,List.append_assoc]
 refine List.Perm.append_left a ?_
 rw[←List.append_assoc,←List.append_assoc]
 exact List.perm_append_comm.append_right d
theorem Qxp{E:Nat→Bool}{id:Nat}:∀{l:List EC} {j:Nat} {c:Option Ob},(∀g∈l,Kc id g=false)→Yw E id l j c=c
 | [],j,c,_=>rfl
 | g::l,j,c,h=>by
  simp only[Yw]
  rw[Q9v (h g (.head _))]
  rw[show(bif E j then c else c)=c by cases E j<;>rfl]
  exact Qxp fun g' hg=>h g' (.tail _ hg)
theorem Qfl{l m:List Nat}{Zs:List (Nat×Ob)}{acc:List EC}{E:Nat→Bool}:Be (l++m) Zs acc E=Be l Zs acc E++Be m Zs acc E:=JQ
theorem Q0d{l m:List (Nat×Ob)}:Vq (l++m)=Vq l++Vq m:=QD
section
variable {P:Program} {Y:TX} {X:Cx} {K:List Con} {n:Nat} {l0:List Oper} {ds:List Nat} {R:Type} {r:R} {β:Nat→Nat} {ρ:Nat→Value} {a:Act} {w:World}
theorem Jpk{B:List En}{M Z:List (Nat×Ob)}(h:Rel X β ρ ⟨B,M++Z⟩ a w):Rel X β ρ ⟨Jfl M B++B,M++Z⟩ a w:=by
 refine Rel.ofSb h rfl fun e he=>?_
 rcases QZ.1 he with he | he
 ·obtain⟨e0,h0,rfl⟩:=Qfk he
  obtain⟨h1,h2⟩:=h.en h0
  refine⟨fun hc=>?_,h2⟩
  obtain⟨cs,q1,q2⟩:=h1 hc
  exact⟨cs,by rw[q1,Q4q],Qcq (fun id o ho=>h.mm id o (Qx ho)) q2⟩
 ·exact h.en he
theorem Q9y(hT:Qy P Y.T)(hmix:P.follows .mixedOrders=true)(hK:KsX P Y X K)(hX:X.n=n)(hr:X.res=[])(hp:X.pin=none){S:XS}(h:Rel X β ρ S.flat a w){p:Nat}{zs zf:List Nat}{ht:HT}
  (hb:Jb5 l0 p ds=true) (hfx:(ds.all fun d=>Qfc d S.fix)=true) {k:Hn→XS→Option R}
  (hs:dcI Y K n l0 p ds (Ju S.mem zs).2 (Ju S.fixM zf).2 (Ju S.mem zs).1 (Ju S.fixM zf).1 ht S (Qpc S.env (ds++Di ht)++S.fix) k=some r) {id:Nat} {Q:Exit→Act→World→Prop}
  (H:∀(β':Nat→Nat) (ρ':Nat→Value) (S':XS) (a':Act) (w':World) (h':Hn),k h' S'=some r→Y6 S S' β β' ρ ρ'→Rel X β' ρ' S'.flat a' w'→wpList P ⟨l0⟩ Q (l0.drop p) a' w'):(Code.region id ⟨l0⟩ true).wp P Q a w:=by
 have hm:=Kr zs S.mem
 have hf:=Kr zf S.fixM
 revert hs hm hf
 generalize (Ju S.mem zs).2=Z1
 generalize (Ju S.mem zs).1=M1
 generalize (Ju S.fixM zf).2=Z2
 generalize (Ju S.fixM zf).1=F1
 intro hs hm hf
 unfold dcI dcR at hs
 have hpm:S.flat.mem.Perm ((Z1++Z2)++(M1++F1)):=(hm.symm.append hf.symm).trans (Jri Z1 M1 Z2 F1)
 have hBm:∀e∈Qpc S.env (ds++Di ht)++S.fix,e∈S.flat.env∧∀d∈ds,e.t≠d∧∀c∈e.cs,c.1≠d:=fun e he=>by
  rcases QZ.1 he with he | he
  ·obtain⟨q1,q2⟩:=Qxj he
   exact⟨List.mem_append_left _ q1,fun d hd=>(q2 d (List.mem_append_left _ hd)).2⟩
  ·exact⟨List.mem_append_right _ he,fun d hd=>Qff (QP.1 hfx d hd) e he⟩
 have h1:Rel X β ρ ⟨Qpc S.env (ds++Di ht)++S.fix,(M1++F1)++(Z1++Z2)⟩ a w:=Rel.permM (Rel.less h fun e he=>(hBm e he).1) (hpm.trans JG)
 have h2:=Rel.permM (Jpk h1) (JG (l₁:=M1++F1) (l₂:=Z1++Z2))
 refine Q9x hT hmix hK hX hr hp (prB:=Td (Qpc S.env (ds++Di ht)++S.fix)++Je ((Z1++Z2)++(M1++F1))++S.prot) (Mb:=M1++F1) h2 (fun e he d hd _=>?_) (fun e he i hi=>?_) (fun i hi=>List.mem_append_left _ (List.mem_append_right _ hi)) hb hs
  (fun hh hs0 acc hk=>?_) (fun i hi=>List.mem_append_left _ (List.mem_append_left _ hi)) fun β' ρ' a' w' hh hs0 acc hk hno hbT hag hR=>?_
 ·rcases QZ.1 he with he | he
  ·obtain⟨e0,q1,rfl⟩:=Qfk he
   grind
  grind
 ·refine List.mem_append_left _ (List.mem_append_left _ ?_)
  rcases QZ.1 he with he | he
  ·obtain⟨e0,q1,rfl⟩:=Qfk he
   exact Q4n q1 (Qlt hi)
  ·exact Q4n he hi
 ·have:=(bvT hk).1
  grind
 ·obtain⟨hck,hk⟩:=bvT hk
  simp only[QQ]at hck
  obtain⟨hck,hkf⟩:=hck
  have hnd:(Vq (Z1++Z2)).Nodup:=by
   unfold Jpa at hck
   simp only[QQ]at hck
   grind [List.nodup_append,Qa8]
  refine H β' ρ' _ a' w' hh hk ⟨rfl,rfl,rfl,fun i hi=>hag i (List.mem_append_right _ hi)⟩ ?_
  have e2:Be (Vq Z2) (Z1++Z2) acc G6=Z2:=by
   unfold Be Vq
   rw[List.filterMap_map]
   refine(Y5 (f:=some) fun q hq=>?_).trans KV
   have hq2:q.1∈Vq Z2:=QK.2 ⟨q,hq,rfl⟩
   have hl:=Qjw hnd q (List.mem_append_right _ hq)
   simp only[Function.comp,hl]
   rw[Qxp fun g hg=>hno q.1 (fun hc hm2 hw=>Io (QP.1 hkf hc hm2) hw hq2) g hg]
   rfl
  have e1:Be (Vq (Z1++Z2)++Xi hs0) (Z1++Z2) acc G6=(Be (Vq Z1) (Z1++Z2) acc G6++Z2)++Be (Xi hs0) (Z1++Z2) acc G6:=by
   rw[Qfl,Q0d,Qfl,e2]
  have e3:Be (Vq Z1++Xi hs0) (Z1++Z2) acc G6=Be (Vq Z1) (Z1++Z2) acc G6++Be (Xi hs0) (Z1++Z2) acc G6:=Qfl
  rw[e1]at hR
  have hperm:(((Be (Vq Z1) (Z1++Z2) acc G6++Z2)++Be (Xi hs0) (Z1++Z2) acc G6)++(M1++F1)).Perm ((Be (Vq Z1++Xi hs0) (Z1++Z2) acc G6++M1)++S.fixM):=by
   rw[e3]
   have p1:((Be (Vq Z1) (Z1++Z2) acc G6++Z2)++Be (Xi hs0) (Z1++Z2) acc G6).Perm ((Be (Vq Z1) (Z1++Z2) acc G6++Be (Xi hs0) (Z1++Z2) acc G6)++Z2):=by
    rw[List.append_assoc,List.append_assoc]
    exact List.Perm.append_left _ JG
   exact((p1.append_right _).trans (Jri _ _ _ _)).trans (List.Perm.append_left _ hf)
  refine Rel.less (Rel.permM hR hperm) fun e he=>?_
  rcases QZ.1 he with he | he
  ·rcases QZ.1 he with he | he
   ·grind
   grind
  ·exact List.mem_append_right _ (List.mem_append_right _ (List.mem_append_right _ he))
end
end Gx

/- Ranges over maps: what is set aside in a round; the entries that are left. -/
namespace Gx
open Go Go.RowKit Gd
set_option linter.unusedVariables false
set_option linter.unusedSimpArgs false
section
variable {P:Program} {Y:TX} {X:Cx} {β β':Nat→Nat} {ρ ρ':Nat→Value} {S S':St} {a a':Act} {w w':World} {Dx:List DF} {F:List TL}
def Qnz(X:Cx)(β:Nat→Nat)(ρ:Nat→Value)(S:St)(Dx:List DF)(F:List TL)(a:Act)(w:World):Prop :=
 Sb (fun _=>0) X [] (Dx++S.env.map (enD β ρ a)) [] (Qj β ρ S.mem++F) a w
abbrev okF(X:Cx)(β:Nat→Nat)(ρ:Nat→Value)(mem:List (Nat×Ob))(F:List TL)(w:World):Ok:=Jn X.ok X.w.heap.size (fun _=>0) [] (Qj β ρ mem++F) w
theorem Qnz.en(h:Qnz X β ρ S Dx F a w){e:En}(he:e∈S.env):(enD β ρ a e).p (okF X β ρ S.mem F w) w:=Yc.1 h.dat _ (List.mem_append_right _ (QK.2 ⟨e,he,rfl⟩))
theorem Qnz.act(h:Qnz X β ρ S Dx F a w){env':List En}(hs:a'.tmps.size=a.tmps.size)(hd:a'.defers=a.defers)(hr:X.res=[])
  (he:∀e∈env',(enD β ρ a' e).p (okF X β ρ S.mem F w) w):Qnz X β ρ ⟨env',S.mem⟩ Dx F a' w :=
 {sz:=hs.trans h.sz,df:=hd.trans h.df,fr:=by rw[hr]; simp,pn:=h.pn,tm:=by simp,bel:=h.bel,
  dat:=Yc.2 fun d hd=>by
   rcases QZ.1 hd with hd | hd
   ·exact Yc.1 h.dat _ (List.mem_append_left _ hd)
   grind,
  obj:=h.obj,own:=h.own,dHH:=h.dHH,dHO:=h.dHO,dOO:=h.dOO }
theorem Qnz.en_put(h:Qnz X β ρ S Dx F a w){d:Nat}(v:Value){e:En}(he:e∈Ys S.env d):(enD β ρ (a.put (some d) v) e).p (okF X β ρ S.mem F w) w:=by
 obtain⟨h1,h2,h3⟩:=N9 he
 have hcc:Jy (a.put (some d) v) e.cs↔Jy a e.cs:=⟨fun hc c hm=>by rw[←Vf (h3 c hm) v]; exact hc c hm,fun hc c hm=>by rw[Vf (h3 c hm) v]; exact hc c hm⟩
 refine⟨fun hc=>?_,?_⟩
 ·obtain⟨cs,h4,h5⟩:=(h.en h1).1 (hcc.1 hc)
  grind [Qk6]
 ·rw[hcc,Qk6 h2]; exact(h.en h1).2
theorem Qnz.del(h:Qnz X β ρ S Dx F a w)(hr:X.res=[]){d:Nat}(v:Value):Qnz X β ρ ⟨Ys S.env d,S.mem⟩ Dx F (a.put (some d) v) w :=
 h.act (by simp[Act.put]) rfl hr fun e he=>h.en_put v he
theorem Qnz.put0(h:Qnz X β ρ S Dx F a w)(hr:X.res=[]){d:Nat}(hd:okD X d=true){x:AV}{c:List Value}(hx:cr β ρ (okF X β ρ S.mem F w) w false x c):Qnz X β ρ ⟨⟨d,[],x⟩::Ys S.env d,S.mem⟩ Dx F (a.put (some d) (x.val c)) w:=by
 refine h.act (by simp[Act.put]) rfl hr fun e he=>?_
 rcases QX.1 he with rfl | he
 ·refine⟨fun _=>⟨c,?_,hx⟩,.inl (Qe _)⟩
  rw[R3 (Qhi hd)]
  simp[Act.put,h.sz,Qrv hd]
 ·exact h.en_put _ he
end
end Gx

/- Ranges over maps: the rounds. -/
namespace Gx
open Go Go.RowKit Gd
set_option linter.unusedVariables false
set_option linter.unusedSimpArgs false
section
section
variable {P:Program} {Y:TX} {X:Cx} {S:XS} {β β':Nat→Nat} {ρ ρ':Nat→Value} {a a':Act} {w w':World} {n N:Nat} {K:List Con}
variable {Q:Exit→Act→World→Prop} {R:Type} {r:R}
def Ex.exit:Ex→Exit
 | .n=>.normal
 | .x i=>.exit i
 | .r=>.ret
theorem Ex.beq_ok{a b:Ex}(h:Ex.beq a b=true):a=b:=by
 cases a<;>cases b<;>simp[Ex.beq]at h<;>first | rfl | (rw[h])
def COk(Q:Exit→Act→World→Prop)(X:Cx)(S0:XS)(β:Nat→Nat)(ρ:Nat→Value){R:Type}(k:Ex→XS→Option R)(r:R):Prop :=
 ∀(e:Ex) (β':Nat→Nat) (ρ':Nat→Value) (S':XS) (a':Act) (w':World),k e S'=some r→Y6 S0 S' β β' ρ ρ'→Rel X β' ρ' S'.flat a' w'→Q e.exit a' w'
theorem COk.after{k:Ex→XS→Option R}(h:COk Q X S β ρ k r){S1:XS}{β1:Nat→Nat}{ρ1:Nat→Value}(hk:Y6 S S1 β β1 ρ ρ1):COk Q X S1 β1 ρ1 k r :=
 fun e β' ρ' S' a' w' h1 h2 h3=>h e β' ρ' S' a' w' h1 (hk.trans h2) h3
theorem Qn0{k:Ex→XS→Option R}(ks ms:List Nat):∀{l:Exs} {e:Ex} {S':XS} {x:Q9e l},inj l e S'=some x→Q9f S ks ms k l x=some r →
  S'.fix=(S.ent ks ms).fix∧S'.fixM=(S.ent ks ms).fixM∧S'.prot=(S.ent ks ms).prot→Rel X β ρ S'.flat a w →
  ∃β' ρ' S1,k e (S.out ks ms S1)=some r∧agP S.prot β β' ρ ρ'∧Rel X β' ρ' (S.out ks ms S1).flat a w
 | [q],e,S',x,hi,ho,hk,h=>by
  simp only[inj]at hi
  obtain⟨hb,hd⟩:=bvT hi
  have:=Ex.beq_ok hb
  subst this
  obtain⟨β',ρ',h1,h2⟩:=Ti (S0:=S.ent ks ms) h hk hd
  rw[←Qfi]at h2
  exact⟨β',ρ',enc q.2 x,ho,h1,h2⟩
 | q::q2::l,e,S',x,hi,ho,hk,h=>by
  simp only[inj]at hi
  cases hb:Ex.beq q.1 e with
  | true =>
   rw[hb]at hi
   have:=Ex.beq_ok hb
   subst this
   simp only[cond_true]at hi
   split at hi
   ·rename_i y hd
    injection hi with hi; subst hi
    obtain⟨β',ρ',h1,h2⟩:=Ti (S0:=S.ent ks ms) h hk hd
    rw[←Qfi]at h2
    exact⟨β',ρ',enc q.2 y,ho,h1,h2⟩
   ·cases hi
  | false =>
   rw[hb]at hi
   simp only[cond_false]at hi
   split at hi
   ·rename_i y hd
    injection hi with hi; subst hi
    exact Qn0 ks ms hd ho hk h
   ·cases hi
end
variable {P:Program} {Y:TX} {X:Cx} {n N:Nat} {K:List Con} {β:Nat→Nat} {ρ:Nat→Value} {a:Act} {w:World} {Q:Exit→Act→World→Prop} {R:Type} {r:R} {k:Ex→XS→Option R} {S1:XS}
theorem isVal{t:Ty}{ok:Ok}{x:t.De}{v:Value}(h:isV (rt t) ok w x v):∃c,v=(AV.d t x).val c∧cr β ρ ok w false (.d t x) c:=by
 obtain⟨cs,h1,h2⟩:=Qav h
 exact⟨cs,h2,h1⟩
end
end Gx
