/- Ranges over maps: what is set aside in a round; the entries that are left. -/
import Derived.Test.YtpdhjildhjpjdaaGreatXP1
import Derived.Maps.RangeRun
import Derived.Scope
import Derived.RangeFuncRecord
import Derived.TacticsIn
import Derived.RangeFuncOwn
namespace Gx
open Go Go.RowKit Gd
set_option linter.unusedVariables false
set_option linter.unusedSimpArgs false
section
variable {P:Program} {Y:TX} {X:Cx} {β β':Nat→Nat} {ρ ρ':Nat→Value} {S S':St} {a a':Act} {w w':World} {Dx:List DF} {F:List TL}
def Iy(X:Cx)(β:Nat→Nat)(ρ:Nat→Value)(S:St)(Dx:List DF)(F:List TL)(a:Act)(w:World):Prop :=
 Sb (fun _=>0) X [] (Dx++S.env.map (enD β ρ a)) [] (Qj β ρ S.mem++F) a w
abbrev okF(X:Cx)(β:Nat→Nat)(ρ:Nat→Value)(mem:List (Nat×Ob))(F:List TL)(w:World):Ok:=Je X.ok X.w.heap.size (fun _=>0) [] (Qj β ρ mem++F) w
theorem Q88{gl:List (Nat×Σ t:Ty,t.De)}(hG:Ud gl (okN X) X.w)(hr:X.res=[])(hp:X.pin=none)(h:Iy X β ρ S Dx F a w)(hV:V2 S.mem=true) :
    ∃X1:Cx,X1.n=X.n∧X1.res=[]∧X1.pin=none∧Ud gl (okN X1) X1.w∧Rel X1 β ρ S a w ∧
      ∀(β':Nat→Nat) (ρ':Nat→Value) (S':St) (a':Act) (w':World),Rel X1 β' ρ' S' a' w'→Iy X β' ρ' S' Dx F a' w':=by
  have hS:Sb (fun _=>0) X [] (Dx++S.env.map (enD β ρ a)) [] (Qj β ρ S.mem++F) a w:=h
  have hL1:∀t∈Qj β ρ S.mem,∀g,t.blks g→g∈Gb w.heap.size (Qj β ρ S.mem):=fun t ht g hg=>by
    unfold Gb
    exact QD.2 ⟨JX.2 (hS.olt (List.mem_append_left _ ht) hg),by grind⟩
  have hL2:∀g∈Gb w.heap.size (Qj β ρ S.mem),∃t∈Qj β ρ S.mem,t.blks g:=fun g hg=>by
    simp_all [Gb,QD,decide_eq_true_eq]
  have hcov:∀t∈Qj β ρ S.mem,∀b o,t.blks b→t.cov b o:=fun t ht b o hb=>by
    obtain⟨q,hq,rfl⟩:=QZ.1 ht
    grind [Qcy]
  have hk:∀b f,Je X.ok X.w.heap.size (fun _=>0) [] (Qj β ρ S.mem++F) w b f→Je (okL (Gb w.heap.size (Qj β ρ S.mem)) (Je X.ok X.w.heap.size (fun _=>0) [] (Qj β ρ S.mem++F) w)) w.heap.size (fun _=>0) [] (Qj β ρ S.mem) w b f :=
    fun b f hbo=>⟨.inl (.inl hbo),hbo.2.1,by simp,fun t ht hc=>hbo.2.2.2 t (List.mem_append_left _ ht) hc⟩
  refine⟨{ cxL (Gb w.heap.size (Qj β ρ S.mem)) X.n (Je X.ok X.w.heap.size (fun _=>0) [] (Qj β ρ S.mem++F) w) w with dfs:=X.dfs },rfl,rfl,rfl,?_,?_,fun β' ρ' S' a' w' hR=>?_⟩
  · exact(Oe hS hG).weak fun b f hbo=>⟨.inl hbo,fun hbl=>by
      obtain⟨t,ht,hg⟩:=hL2 b hbl
      exact hbo.2.2.2 t (List.mem_append_left _ ht) (hcov t ht b f hg),hbo.2.1⟩
  · exact { sz:=hS.sz,df:=hS.df,fr:=by simp,pn:=by simp,tm:=by simp,bel:=Uz.refl _ _ _,obj:=by simp,dHH:=by simp,dHO:=by simp,
            dat:=Jh.2 fun x hx=>by
              obtain⟨e,he,rfl⟩:=QZ.1 hx
              exact(enD β ρ a e).weak (Jh.1 hS.dat _ (List.mem_append_right _ (QZ.2 ⟨e,he,rfl⟩))) hk,
            own:=fun t ht=>⟨t.weak (hS.own t (List.mem_append_left _ ht)).1 hk,fun g hg=>.inr (hL1 t ht g hg)⟩,
            dOO:=(QG.1 hS.dOO).1 }
  · have hC:=Sb.callO (O1':=Qj β' ρ' S'.mem) hS hR.bel hL2 hcov (fun t ht=>⟨(hR.own t ht).1,fun g hg=>(hR.own t ht).2 g hg⟩) hR.dOO
    exact { sz:=hR.sz,df:=hR.df,fr:=by rw[hr]; simp,pn:=by rw[hp]; simp,tm:=by simp,bel:=hC.bel,obj:=by simp,own:=hC.own,dHH:=by simp,dHO:=by simp,dOO:=hC.dOO,
            dat:=Jh.2 fun x hx=>by
              rcases QX.1 hx with hx | hx
              · exact Jh.1 hC.dat _ (List.mem_append_left _ hx)
              · obtain⟨e,he,rfl⟩:=QZ.1 hx
                have h1:=Jh.1 hR.dat _ (QZ.2 ⟨e,he,rfl⟩)
                exact(enD β' ρ' a' e).weak h1 fun b f hbf=>Qa8 hS hR.bel.size hL2 b f hbf }
theorem Iy.en(h:Iy X β ρ S Dx F a w){e:En}(he:e∈S.env):(enD β ρ a e).p (okF X β ρ S.mem F w) w:=Jh.1 h.dat _ (List.mem_append_right _ (QZ.2 ⟨e,he,rfl⟩))
theorem Iy.act(h:Iy X β ρ S Dx F a w){env':List En}(hs:a'.tmps.size=a.tmps.size)(hd:a'.defers=a.defers)(hr:X.res=[])
  (he:∀e∈env',(enD β ρ a' e).p (okF X β ρ S.mem F w) w):Iy X β ρ ⟨env',S.mem⟩ Dx F a' w :=
 {sz:=hs.trans h.sz,df:=hd.trans h.df,fr:=by rw[hr]; simp,pn:=h.pn,tm:=by simp,bel:=h.bel,
  dat:=Jh.2 fun d hd=>by
   rcases QX.1 hd with hd | hd
   ·exact Jh.1 h.dat _ (List.mem_append_left _ hd)
   grind,
  obj:=h.obj,own:=h.own,dHH:=h.dHH,dHO:=h.dHO,dOO:=h.dOO }
theorem Iy.en_put(h:Iy X β ρ S Dx F a w){d:Nat}(v:Value){e:En}(he:e∈Jx S.env d):(enD β ρ (a.put (some d) v) e).p (okF X β ρ S.mem F w) w:=by
 obtain⟨h1,h2,h3⟩:=Iq he
 have hcc:J3 (a.put (some d) v) e.cs↔J3 a e.cs:=⟨fun hc c hm=>by rw[←Vs (h3 c hm) v]; exact hc c hm,fun hc c hm=>by rw[Vs (h3 c hm) v]; exact hc c hm⟩
 refine⟨fun hc=>?_,?_⟩
 ·obtain⟨cs,h4,h5⟩:=(h.en h1).1 (hcc.1 hc)
  grind [Qk8]
 ·rw[hcc,Qk8 h2]; exact(h.en h1).2
theorem Iy.del(h:Iy X β ρ S Dx F a w)(hr:X.res=[]){d:Nat}(v:Value):Iy X β ρ ⟨Jx S.env d,S.mem⟩ Dx F (a.put (some d) v) w :=
 h.act (by simp[Act.put]) rfl hr fun e he=>h.en_put v he
theorem Iy.put0(h:Iy X β ρ S Dx F a w)(hr:X.res=[]){d:Nat}(hd:okD X d=true){x:AV}{c:List Value}(hx:cr β ρ (okF X β ρ S.mem F w) w false x c):Iy X β ρ ⟨⟨d,[],x⟩::Jx S.env d,S.mem⟩ Dx F (a.put (some d) (x.val c)) w:=by
 refine h.act (by simp[Act.put]) rfl hr fun e he=>?_
 rcases QJ.1 he with rfl | he
 ·refine⟨fun _=>⟨c,?_,hx⟩,.inl (Qf _)⟩
  rw[Om (Qaw hd)]
  simp[Act.put,h.sz,Qcg hd]
 ·exact h.en_put _ he
def Y3(g:Nat)(o:Obj):TL where
 blks:=fun b=>b=g
 cov:=fun b _=>b=g
 cb:=fun h=>h
 p:=fun _ w=>w.heap[g]?=some o
 keep:=fun h hb _=>by rw[hb _ rfl]; exact h
 weak:=fun h _=>h
 lt:=fun h b hb=>by grind
def Qi3{k v:Ty}(xs:List (k.De×v.De))(es:List MapEntry):DF where
 p:=fun ok w=>W8 (rt k) (rt v) ok w xs es
 evo:=fun h he=>Hf h he
 weak:=fun h hk=>Ub h hk
theorem Jfi{k v:Ty}{xs:List (k.De×v.De)}{m:Nat}{env:List En}{M:List (Nat×Ob)}(h:Rel X β ρ ⟨env,(m,.map k v xs)::M⟩ a w)(hr:X.res=[]) :
  ∃es clock ys,w.heap[β m]?=some (.map es clock)∧ys.Perm xs∧(xs.map Prod.fst).Nodup∧(es.toList.map MapEntry.born).Nodup∧(∀e∈es.toList,e.born<clock)∧W8 (rt k) (rt v) (okR X β ρ ((m,.map k v xs)::M) w) w ys es.toList ∧
   ∀o:Obj,Iy X β ρ ⟨env,M⟩ [Qi3 ys es.toList] [Y3 (β m) (.map es clock),Y3 w.heap.size o] a (w.alloc o):=by
 have hS:Sb (fun _=>0) X [] (env.map (enD β ρ a)) [] (Co (β m) (rt k) (rt v) xs::Qj β ρ M) a w:=h
 obtain⟨⟨es,clock,ys,q1,q0,q2,q3,q4,q5⟩,hmine⟩:=hS.own _ (.head _)
 refine⟨es,clock,ys,q1,q0,q3,q4,q5,q2,fun o=>?_⟩
 have hbel:Below w.heap.size w (w.alloc o):=(Below.refl _ _).alloc (QY _) _
 have hevo:Evo (Je X.ok X.w.heap.size (fun _=>0) [] (Co (β m) (rt k) (rt v) xs::Qj β ρ M) w) w (w.alloc o):=(Evo.of_below hbel).mono fun b o hk=>hk.2.1
 have hok:∀b f,Je X.ok X.w.heap.size (fun _=>0) [] (Co (β m) (rt k) (rt v) xs::Qj β ρ M) w b f→Je X.ok X.w.heap.size (fun _=>0) [] (Qj β ρ M++[Y3 (β m) (.map es clock),Y3 w.heap.size o]) (w.alloc o) b f:=by
  rintro b f ⟨h1,h2,h3,h4⟩
  refine⟨h1,QB h2 hbel.size,h3,fun t ht hc=>?_⟩
  rcases QX.1 ht with ht | ht
  ·grind
  ·rcases QJ.1 ht with rfl | ht
   ·exact h4 _ (.head _) hc
   ·rcases QJ.1 ht with rfl | ht
    ·have hc:b=w.heap.size:=hc
     omega
    ·cases ht
 have hlt:β m<w.heap.size:=Vb q1
 have hblk:∀g,g<w.heap.size→(w.alloc o).heap[g]?=w.heap[g]?:=fun g hg=>hbel.block g hg
 have hpw:=List.pairwise_cons.1 hS.dOO
 refine { sz:=hS.sz,df:=hS.df,fr:=by rw[hr]; simp,pn:=hS.pn,tm:=by simp,bel:=hS.bel.trans (Uz.of _ (hbel.mono hS.bel.size)),obj:=by simp,dHH:=by simp,dHO:=by simp,dat:=?_,own:=?_,dOO:=?_ }
 ·refine Jh.2 fun x hx=>?_
  rcases QX.1 hx with hx | hx
  ·rw[JH]at hx
   subst hx
   exact Ub (Hf q2 hevo) hok
  ·exact x.weak (x.evo (Jh.1 hS.dat _ hx) hevo) hok
 ·intro t ht
  rcases QX.1 ht with ht | ht
  ·have h1:=hS.own t (.tail _ ht)
   exact⟨t.weak (t.keep h1.1 (fun g hg=>hblk g (t.lt h1.1 g hg)) hevo) hok,h1.2⟩
  ·rcases QJ.1 ht with rfl | ht
   ·exact⟨by show(w.alloc o).heap[β m]?=_; rw[hblk _ hlt]; exact q1,hmine⟩
   ·rcases QJ.1 ht with rfl | ht
    ·exact⟨heap_alloc_new w o,fun g hg=>.inl (by have hg:g=w.heap.size:=hg; rw[hg]; exact hS.bel.size)⟩
    ·cases ht
 ·refine QG.2 ⟨hpw.2,?_,fun t ht u hu g hg hg2=>?_⟩
  ·refine List.pairwise_cons.2 ⟨fun u hu g hg hg2=>?_,ZK _ _⟩
   rw[JH]at hu
   subst hu
   have hg:g=β m:=hg
   have hg2:g=w.heap.size:=hg2
   omega
  ·rcases QJ.1 hu with rfl | hu
   ·exact hpw.1 t ht g hg2 hg
   ·rw[JH]at hu
    subst hu
    have hg2:g=w.heap.size:=hg2
    have:=t.lt (hS.own t (.tail _ ht)).1 g hg
    omega
theorem Iy.unpin{k v:Ty}{xs ys:List (k.De×v.De)}{m r:Nat}{es:Array MapEntry}{clock:Nat}{o:Obj}(hq:ys.Perm xs)(h:Iy X β ρ S [Qi3 ys es.toList] [Y3 (β m) (.map es clock),Y3 r o] a w)(hn1:(xs.map Prod.fst).Nodup)
  (hn2:(es.toList.map MapEntry.born).Nodup) (hc:∀e∈es.toList,e.born<clock):Rel X β ρ ⟨S.env,(m,.map k v xs)::S.mem⟩ a w:=by
 have hS:Sb (fun _=>0) X [] ([Qi3 ys es.toList]++S.env.map (enD β ρ a)) [] (Qj β ρ S.mem++[Y3 (β m) (.map es clock),Y3 r o]) a w:=h
 have hok:∀b f,Je X.ok X.w.heap.size (fun _=>0) [] (Qj β ρ S.mem++[Y3 (β m) (.map es clock),Y3 r o]) w b f→Je X.ok X.w.heap.size (fun _=>0) [] (Co (β m) (rt k) (rt v) xs::Qj β ρ S.mem) w b f:=by
  rintro b f ⟨h1,h2,h3,h4⟩
  refine⟨h1,h2,h3,fun t ht hc=>?_⟩
  rcases QJ.1 ht with rfl | ht
  ·exact h4 (Y3 (β m) (.map es clock)) (List.mem_append_right _ (.head _)) hc
  grind
 have hpw:=QG.1 hS.dOO
 have hpin:=hS.own (Y3 (β m) (.map es clock)) (List.mem_append_right _ (.head _))
 have hmp:W8 (rt k) (rt v) _ w ys es.toList:=Jh.1 hS.dat (Qi3 ys es.toList) (.head _)
 refine { sz:=hS.sz,df:=hS.df,fr:=hS.fr,pn:=hS.pn,tm:=by simp,bel:=hS.bel,obj:=by simp,dHH:=by simp,dHO:=by simp,dat:=?_,own:=?_,dOO:=?_ }
 ·exact Jh.2 fun x hx=>x.weak (Jh.1 hS.dat _ (List.mem_append_right _ hx)) hok
 ·intro t ht
  rcases QJ.1 ht with rfl | ht
  ·exact⟨⟨es,clock,ys,hpin.1,hq,Ub hmp hok,hn1,hn2,hc⟩,hpin.2⟩
  ·have h1:=hS.own t (List.mem_append_left _ ht)
   exact⟨t.weak h1.1 hok,h1.2⟩
 ·exact List.pairwise_cons.2 ⟨fun t ht g hg hg2=>hpw.2.2 t ht _ (.head _) g hg2 hg,hpw.1⟩
theorem Iy.setI{g r:Nat}{om o o':Obj}(h:Iy X β ρ S Dx [Y3 g om,Y3 r o] a w){w1:World}(hw:w1=w∨w1=w.drew):Iy X β ρ S Dx [Y3 g om,Y3 r o'] a (Go.ChangeMaps.setBlock w1 r o'):=by
 have hS:Sb (fun _=>0) X [] (Dx++S.env.map (enD β ρ a)) [] ((Qj β ρ S.mem++[Y3 g om])++Y3 r o::[]) a w:=by
  have e:(Qj β ρ S.mem++[Y3 g om])++Y3 r o::[]=Qj β ρ S.mem++[Y3 g om,Y3 r o]:=by simp
  rw[e]; exact h
 have hp:w.heap[r]?=some o:=(hS.own (Y3 r o) (by simp)).1
 have hlt:=Vb hp
 have hheap:w1.heap=w.heap:=by rcases hw with rfl | rfl<;>rfl
 have:=Sb.upd (t':=Y3 r o') (w':=Go.ChangeMaps.setBlock w1 r o') hS rfl (by rcases hw with rfl | rfl<;>rfl) (by rcases hw with rfl | rfl<;>rfl) (by rcases hw with rfl | rfl<;>rfl) (by grind [Go.ChangeMaps.setBlock])
  (fun b hb hn=>by
   have hn:¬ b=r:=hn
   grind [Go.ChangeMaps.setBlock,Array.getElem?_setIfInBounds_ne]) (fun b o hb=>hb) (fun g hg=>.inl hg)
  (fun _ _=>by
   show(Go.ChangeMaps.setBlock w1 r o').heap[r]?=some o'
   grind [Go.ChangeMaps.setBlock])
 have e:(Qj β ρ S.mem++[Y3 g om])++Y3 r o'::[]=Qj β ρ S.mem++[Y3 g om,Y3 r o']:=by simp
 rw[e]at this
 exact this
end
theorem Qw8{ε σ τ:Type}{f:ε→σ→Option (σ⊕τ)}{e:ε}{s:σ}:Mz f [e] s=f e s:=by
 grind [Mz]
theorem Qo7{ε σ τ:Type}{f:ε→σ→Option (σ⊕τ)}{l:List ε}{s:σ}{z:σ⊕τ}(h:Ih f l s=some z):∀ys:List ε,ys.Perm l→Mz f ys s=some z:=by
 intro ys hp
 match l,h with
 | [],h =>
  have:=hp.eq_nil
  subst this
  exact h
 | [e],h =>
  have:=List.perm_singleton.1 hp
  subst this
  rw[Qw8]; exact h
 | e::e'::l,h =>
  grind [Ih,Qr8]
theorem Qs9{ε σ τ:Type}{f:ε→σ→Option (σ⊕τ)}{l:List ε}{s:σ}{z:σ⊕τ}(h:∀ys:List ε,ys.Perm l→Mz f ys s=some z):Ih f l s=some z:=by
 match l,h with
 | [],h=>exact h [] (List.Perm.refl _)
 | [e],h=>exact Qw8.symm.trans (h [e] (List.Perm.refl _))
 | e::e'::l,h =>
  simp_all [Ih,Qr8,if_pos,List.Perm.refl]
theorem Qz0{ε σ τ:Type}{f:ε→σ→Option (σ⊕τ)}{l l':List ε}{s:σ}{z:σ⊕τ}(h:Ih f l s=some z)(hp:l'.Perm l):Ih f l' s=some z:=Qs9 fun ys hy=>Qo7 h ys (hy.trans hp)
def Az{κ:Type}:List MapEntry→List κ→Array Nat→List κ
 | e::es,x::xs,seen=>bif seen.contains e.born then Az es xs seen else x::Az es xs seen
 | _,_,_=>[]
theorem Qo8{κ:Type}:∀{es:List MapEntry} {xs:List κ},es.length=xs.length→Az es xs #[]=xs
 | [],[],_=>rfl
 | e::es,x::xs,h=>by
  simp only[Az]
  rw[Qo8 (es:=es) (xs:=xs) (by simpa using h)]
  simp
 | [],_::_,h=>by simp at h
 | _::_,[],h=>by simp at h
theorem Qw9{κ:Type}{b:Nat}{seen:Array Nat}:∀{es:List MapEntry} {xs:List κ},(∀e∈es,e.born≠b)→Az es xs (seen.push b)=Az es xs seen
 | [],xs,_=>by simp[Az]
 | e::es,[],_=>by simp[Az]
 | e::es,x::xs,h=>by
  have h1:(seen.push b).contains e.born=seen.contains e.born:=by
   have:=h e (.head _)
   rw[ZE]
   simp[this]
  simp only[Az,h1]
  rw[Qw9 fun e he=>h e (.tail _ he)]
theorem Qta{κ:Type}{e:MapEntry}{seen:Array Nat}:∀{es:List MapEntry} {xs:List κ},es.length=xs.length→(es.map MapEntry.born).Nodup→e∈es→seen.contains e.born=false →
  ∃x,(e,x)∈es.zip xs∧(Az es xs seen).Perm (x::Az es xs (seen.push e.born))
 | [],_,_,_,he,_=>by cases he
 | e0::es,[],h,_,_,_=>by simp at h
 | e0::es,x0::xs,h,hn,he,hs=>by
  have hn':e0.born∉es.map MapEntry.born∧(es.map MapEntry.born).Nodup:=QN.1 hn
  rcases QJ.1 he with rfl | he
  ·simp_all [Az,cond_true,cond_false,Qw9,QZ]
  ·obtain⟨x,h1,h2⟩:=Qta (xs:=xs) (by simpa using h) hn'.2 he hs
   refine⟨x,.tail _ h1,?_⟩
   have hne:e0.born≠e.born:=fun hb=>hn'.1 (QZ.2 ⟨e,he,hb.symm⟩)
   have h3:(seen.push e.born).contains e0.born=seen.contains e0.born:=by
    rw[ZE]
    simp[hne]
   simp only[Az,h3]
   cases seen.contains e0.born with
   | true=>simpa using h2
   | false =>
    simp only[cond_false]
    exact(h2.cons x0).trans (List.Perm.swap _ _ _)
theorem Qtb{es:Array MapEntry}{seen:Array Nat}{e:MapEntry}(h:e∈(leftOf es seen).toList):e∈es.toList∧seen.contains e.born=false:=by
 grind [leftOf]
theorem Qtc{κ:Type}{seen:Array Nat}:∀{es:List MapEntry} {xs:List κ},(∀e∈es,seen.contains e.born=true)→Az es xs seen=[]
 | [],_,_=>by simp[Az]
 | _::_,[],_=>by simp[Az]
 | e::es,x::xs,h=>by
  simp only[Az,h e (.head _),cond_true]
  exact Qtc fun e he=>h e (.tail _ he)
theorem Q4d{es:Array MapEntry}{seen:Array Nat}(h:(leftOf es seen).size=0):∀e∈es.toList,seen.contains e.born=true:=by
 grind [leftOf,Array.eq_empty_of_size_eq_zero,Array.filter_eq_empty_iff]
theorem Q4e{es:Array MapEntry}{seen:Array Nat}{e:MapEntry}(h:e∈(leftOf es seen).toList):(leftOf es (seen.push e.born)).size<(leftOf es seen).size:=by
 obtain⟨h1,h2⟩:=Qtb h
 have hs:∀s:Array Nat,(leftOf es s).size=(es.toList.filter fun x=>!s.contains x.born).length:=fun s=>by
  unfold leftOf
  rw[←Array.toList_filter,Array.length_toList]
 rw[hs,hs]
 refine filter_lt (fun x=>!seen.contains x.born) (fun x=>!(seen.push e.born).contains x.born) (fun x hx=>?_) e (by rw[h2]; rfl) (by simp) _ h1
 grind
theorem Q4f{k v:Ty}{ok:Ok}{w:World}:∀{xs:List (k.De×v.De)} {es:List MapEntry},W8 (rt k) (rt v) ok w xs es→es.length=xs.length
 | [],es,h=>by have h:es=[]:=h; subst h; rfl
 | x::xs,es,⟨e,es',h,_,_,h3⟩=>by subst h; simp[Q4f h3]
theorem Q4g{k v:Ty}{ok:Ok}{w:World}:∀{xs:List (k.De×v.De)} {es:List MapEntry},W8 (rt k) (rt v) ok w xs es→∀q∈es.zip xs,isV (rt k) ok w q.2.1 q.1.key∧isV (rt v) ok w q.2.2 q.1.val
 | [],es,h,q,hq=>by simp at hq
 | x::xs,es,⟨e,es',h,h1,h2,h3⟩,q,hq=>by
  subst h
  rcases QJ.1 hq with rfl | hq
  ·exact⟨h1,h2⟩
  ·exact Q4g h3 q hq
end Gx

/- Ranges over maps: the rounds. -/
namespace Gx
open Go Go.RowKit Gd
set_option linter.unusedVariables false
set_option linter.unusedSimpArgs false
section
section
variable {P:Program} {Y:TX} {X:Cx} {S:XS} {β β':Nat→Nat} {ρ ρ':Nat→Value} {a a':Act} {w w':World} {n N:Nat} {K:List Con}
variable {Q:Exit→Act→World→Prop} {R:Type} {r:R}
def Ex.exit:Ex→Exit
 | .n=>.normal
 | .x i=>.exit i
 | .r=>.ret
theorem Ex.beq_ok{a b:Ex}(h:Ex.beq a b=true):a=b:=by
 cases a<;>cases b<;>simp[Ex.beq]at h<;>first | rfl | (rw[h])
def COk(Q:Exit→Act→World→Prop)(X:Cx)(S0:XS)(β:Nat→Nat)(ρ:Nat→Value){R:Type}(k:Ex→XS→Option R)(r:R):Prop :=
 ∀(e:Ex) (β':Nat→Nat) (ρ':Nat→Value) (S':XS) (a':Act) (w':World),k e S'=some r→Vh S0 S' β β' ρ ρ'→Rel X β' ρ' S'.flat a' w'→Q e.exit a' w'
theorem COk.after{k:Ex→XS→Option R}(h:COk Q X S β ρ k r){S1:XS}{β1:Nat→Nat}{ρ1:Nat→Value}(hk:Vh S S1 β β1 ρ ρ1):COk Q X S1 β1 ρ1 k r :=
 fun e β' ρ' S' a' w' h1 h2 h3=>h e β' ρ' S' a' w' h1 (hk.trans h2) h3
theorem Qj0{k:Ex→XS→Option R}(ks ms:List Nat):∀{l:Exs} {e:Ex} {S':XS} {x:Qet l},inj l e S'=some x→Q3f S ks ms k l x=some r →
  S'.fix=(S.ent ks ms).fix∧S'.fixM=(S.ent ks ms).fixM∧S'.prot=(S.ent ks ms).prot→Rel X β ρ S'.flat a w →
  ∃β' ρ' S1,k e (S.out ks ms S1)=some r∧agP S.prot β β' ρ ρ'∧Rel X β' ρ' (S.out ks ms S1).flat a w
 | [q],e,S',x,hi,ho,hk,h=>by
  simp only[inj]at hi
  obtain⟨hb,hd⟩:=bvT hi
  have:=Ex.beq_ok hb
  subst this
  obtain⟨β',ρ',h1,h2⟩:=Ma (S0:=S.ent ks ms) h hk hd
  rw[←Qfq]at h2
  exact⟨β',ρ',enc q.2 x,ho,h1,h2⟩
 | q::q2::l,e,S',x,hi,ho,hk,h=>by
  simp only[inj]at hi
  cases hb:Ex.beq q.1 e with
  | true =>
   rw[hb]at hi
   have:=Ex.beq_ok hb
   subst this
   simp only[cond_true]at hi
   split at hi
   ·rename_i y hd
    injection hi with hi; subst hi
    obtain⟨β',ρ',h1,h2⟩:=Ma (S0:=S.ent ks ms) h hk hd
    rw[←Qfq]at h2
    exact⟨β',ρ',enc q.2 y,ho,h1,h2⟩
   ·cases hi
  | false =>
   rw[hb]at hi
   simp only[cond_false]at hi
   split at hi
   ·rename_i y hd
    injection hi with hi; subst hi
    exact Qj0 ks ms hd ho hk h
   ·cases hi
end
variable {P:Program} {Y:TX} {X:Cx} {n N:Nat} {K:List Con} {β:Nat→Nat} {ρ:Nat→Value} {a:Act} {w:World} {Q:Exit→Act→World→Prop} {R:Type} {r:R} {k:Ex→XS→Option R} {S1:XS}
theorem Qo9:∀{l m:List (Nat×Ob)},V2 l=true→V2 m=true→V2 (l++m)=true
 | [],m,_,h=>h
 | (i,o)::l,m,h1,h2=>by
  have h3:V2 l=true:=by cases o<;>first | exact h1 | cases h1
  have ih:=Qo9 h3 h2
  cases o<;>first | exact ih | cases h1
theorem Qtd:∀{l:List (Nat×SkO)} {vs:List DV},Qq1 l=true→V2 (Zu l vs)=true
 | [],_,_=>rfl
 | (t,o)::l,vs,h=>by
  have h2:Qq1 l=true:=by cases o<;>first | exact h | cases h
  simp only[Zu]
  cases he:L7 o vs with
  | none=>rfl
  | some q =>
   obtain⟨x,r⟩:=q
   have ih:=Qtd (vs:=r) h2
   cases o with
   | tail e t=>cases h
   | mapC kk u =>
    cases vs with
    | nil=>simp[L7]at he
    | cons v vs =>
     simp only[L7]at he
     split at he
     ·simp only[Option.some.injEq,Prod.mk.injEq]at he
      obtain⟨rfl,rfl⟩:=he
      exact ih
     ·cases he
   | var tid c =>
    simp only[L7,Option.some.injEq,Prod.mk.injEq]at he
    obtain⟨rfl,rfl⟩:=he
    exact ih
   | row e t =>
    cases vs with
    | nil=>simp[L7]at he
    | cons v vs =>
     simp only[L7]at he
     split at he
     ·simp only[Option.some.injEq,Prod.mk.injEq]at he
      obtain⟨rfl,rfl⟩:=he
      exact ih
     ·cases he
   | map kk u =>
    cases vs with
    | nil=>simp[L7]at he
    | cons v vs =>
     simp only[L7]at he
     split at he
     ·simp only[Option.some.injEq,Prod.mk.injEq]at he
      obtain⟨rfl,rfl⟩:=he
      exact ih
     ·cases he
theorem Q4h{t:Nat}{v:Value}(h:rd a t=some v)(hb:Nat.blt t 100000=true):a.eval (.tmp t)=v:=by
 rw[Om hb]at h
 simp[Act.eval,h]
theorem Qht{ops:Array Oper}{o:Oper}{d:Nat}{v:Value}{w':World}(hg:o.guard=none)(hd:o.dst=some d)(hr:(execOp a.eval o).run P w=.ok (.value v) w'){rest:List Oper}(h:wpList P ops Q rest (a.put (some d) v) w'):wpList P ops Q (o::rest) a w :=
 Jk (Zh hg _) (Yl hr (by rw[hd]; exact h))
theorem isVal{t:Ty}{ok:Ok}{x:t.De}{v:Value}(h:isV (rt t) ok w x v):∃c,v=(AV.d t x).val c∧cr β ρ ok w false (.d t x) c:=by
 obtain⟨cs,h1,h2⟩:=Qhj h
 exact⟨cs,h2,h1⟩
theorem Q4i{d:Nat}:∀{l:List En},Rr d l=true→Jx l d=l
 | [],_=>rfl
 | e::l,h=>by
  have h1:(Nat.beq e.t d||Qa1 d e.cs)=false∧Rr d l=true:=by simp_all [Rr,QQ,JF]
  simp only[Jx,h1.1,cond_false]
  rw[Q4i h1.2]
theorem Jva(hT:Q0 P Y.T)(hK:KsX P Y X K)(hX:X.n=n)(hr:X.res=[])(hpin:X.pin=none){m it nx mo pr mt t:Nat}{ks ms:List Nat}{Γ:Shp}{exs:Exs}{out nxt:Nat}{kk vv:Ty}{xs:List (kk.De×vv.De)}{tk:TE}
  {body:XS→(Ex→XS→Option (Γ.De⊕Qet exs))→Option (Γ.De⊕Qet exs)} {ops:Array Oper} {ty1 ty2 ty3 ty4:TypeId} {p1 p2 p3 p4:String} {f1 f2 f3 f4:Array Edge} {ops3:List Oper} {c:Code} {i1 i2:Nat}
  (h:Rel X β ρ S1.flat a w) (hm:S1.ev [] (.tmp mt)=some (.m m)) (htk:Qk Y.T t=some tk) (hl:Qh (mpE S1 ks ms m).fixM m=some (.map kk vv xs))
  (hs:Jit n S1 m it nx mo pr ks ms Γ exs out nxt kk vv xs tk body k=some r) (H:COk Q X S1 β ρ k r)
  (hb:∀(X1:Cx) (β:Nat→Nat) (ρ:Nat→Value) (a:Act) (w:World) (S3:XS) (k1:Ex→XS→Option (Γ.De⊕Qet exs)) (r1:Γ.De⊕Qet exs) (Q1:Exit→Act→World→Prop),X1.n=n→X1.res=[]→X1.pin=none→KsX P Y X1 K→Rel X1 β ρ S3.flat a w→body S3 k1=some r1→COk Q1 X1 S3 β ρ k1 r1 →
   wpList P ⟨⟨some pr,.entry (.tmp it),ty4,p4,f4,none⟩::ops3⟩ (Exit.then (c.wp P Q1) Q1) ops3 a w) :
  wpList P ops (Exit.then ((Code.block out (.loop (.seq (.region i1 ⟨[⟨some nx,.next (.tmp it) false,ty2,p2,f2,none⟩,⟨some mo,.extract (.tmp nx) 0,ty3,p3,f3,none⟩]⟩ false) (.seq (.cond (.tmp mo) .skip (.exit out)) (.block nxt (.seq (.region i2 ⟨⟨some pr,.entry (.tmp it),ty4,p4,f4,none⟩::ops3⟩ false) c)))))).wp P Q) Q)
   [⟨some it,.range t (.tmp mt),ty1,p1,f1,none⟩] a w:=by
 unfold Jit at hs
 split at hs
 case h_2=>cases hs
 rename_i s0 hs0
 obtain⟨hok,hs⟩:=bvT hs
 unfold Ju0 at hok
 simp only[QQ,JF]at hok
 obtain⟨⟨⟨⟨⟨⟨⟨hmap,hW,hoE⟩,hIE,hIF⟩,⟨hfE,hfM⟩,hfp⟩,⟨hWn,hWm⟩,hWp⟩,hNK⟩,hNB⟩,hne⟩:=hok
 have hne:mo≠nx:=fun e=>by rw[e,Nat.beq_refl]at hne; cases hne
 obtain⟨E,hE⟩:∃E,E=mpE S1 ks ms m:=⟨_,rfl⟩
 rw[←hE]at hs hs0 hl hW hIF hfM hfp hWn hWm hWp hNB
 obtain⟨B0,hB0⟩:∃B0,B0=mpB E it m:=⟨_,rfl⟩
 rw[←hB0]at hs hNB hWn hWm hWp
 have hEf:E.fix=Qpx S1.env ks++S1.fix:=by rw[hE]; rfl
 have hEM:E.fixM=(Jp S1.mem ms).2++S1.fixM:=by rw[hE]; rfl
 have hEp:E.prot=m::S1.prot:=by rw[hE]; rfl
 have hB0p:B0.prot=it::m::S1.prot:=by rw[hB0,←hEp]; rfl
 have hB0f:B0.fix=⟨it,[],.p it []⟩::E.fix:=by rw[hB0]; rfl
 have hB0M:B0.fixM=J4 E.fixM m:=by rw[hB0]; rfl
 obtain⟨hd,hoff⟩:=Y2 hW hX hr
 obtain⟨kt,et,htd⟩:∃kt et,tk.d=.map kt et:=by
  cases hd':tk.d<;>rw[hd']at hmap<;>first | (cases hmap; done) | grind
 have hu:=(Jo hT htk).2
 rw[htd]at hu
 have hmne:m≠it:=(Gk hfM _ (Qa9 hl)).1
 obtain⟨cs,hev,hcs⟩:=h.ev (Qf a) hm
 have hcs:cs=[.map (some (β m))]:=hcs
 subst hcs
 have hev:a.eval (.tmp mt)=.map (some (β m)):=hev
 have hE1:Rel X β ρ E.flat a w:=by
  rw[hE]
  exact Rel.ent (S:=⟨S1.env,S1.fix,S1.mem,S1.fixM,m::S1.prot⟩) h ks ms
 obtain⟨β0,ρ0,hag0,hR⟩:=Ma (S0:=E) hE1 ⟨rfl,rfl,rfl⟩ hs0
 rw[hEp]at hag0
 obtain⟨x0,hx0⟩:∃x0,x0=enc Γ s0:=⟨_,rfl⟩
 rw[←hx0]at hR hoE hIE hfE
 have hR:Rel X β0 ρ0 ⟨x0.env++E.fix,x0.mem++E.fixM⟩ a w:=hR
 obtain⟨β1,hβ1⟩:∃β1,β1=upd β0 it w.heap.size:=⟨_,rfl⟩
 have hβm:β1 m=β m:=by rw[hβ1,Xr β0 _ hmne]; exact(hag0 m (.head _)).1
 have hβi:β1 it=w.heap.size:=by rw[hβ1]; simp[Jd]
 have hoffB:Qi2 it β0 β1 ρ0 ρ0:=fun i hi=>⟨by rw[hβ1]; exact Xr β0 _ hi,rfl⟩
 have hfr:Jy it (x0.mem++E.fixM)=true:=by
  have key:∀{l k:List (Nat×Ob)},Jy it l=true→Jy it k=true→Jy it (l++k)=true:=fun {l k} h1 h2=>by
   have:=Hj (S:=⟨[],[],l,k,[]⟩) (d:=it) (by grind [okB,Qfk,Yj])
   exact this.1
  grind
 have h1:Rel X β1 ρ0 ⟨x0.env++E.fix,x0.mem++E.fixM⟩ a w:=Rel.off hR hoffB hfr fun e he=>by
  grind [Qlp]
 have h2:=h1.put0 hd (x:=.p it []) (c:=[.pointer (some ⟨β1 it,0,none⟩)]) rfl
 have h3:Rel X β1 ρ0 ⟨x0.env++B0.fix,x0.mem++E.fixM⟩ (a.put (some it) (.pointer (some ⟨β1 it,0,none⟩))) w:=Rel.less (S:=St.put ⟨x0.env++E.fix,x0.mem++E.fixM⟩ it [] (.p it [])) h2 fun e he=>by
  have hrem:Jx (x0.env++E.fix) it=x0.env++E.fix:=by rw[We hoff,Q4i hoE]
  show e∈_::Jx (x0.env++E.fix) it
  rw[hrem]
  grind
 have hperm:(x0.mem++E.fixM).Perm ((m,.map kk vv xs)::(x0.mem++B0.fixM)):=by
  rw[hB0M]
  exact((Fy hl).append_left x0.mem).trans List.perm_middle
 obtain⟨es,clock,ys0,q1,q0,q2,q3,q4,q5,q6⟩:=Jfi (h3.permM hperm) hr
 have hlen:=Q4f q5
 have hrun:(execOp a.eval ⟨some it,.range t (.tmp mt),ty1,p1,f1,none⟩).run P w=.ok (.value (.pointer (some ⟨β1 it,0,none⟩))) (w.alloc (.mapIter (some (β1 m)) clock #[] clock)):=by
  unfold execOp
  simp only[hev]
  have:=run_range_map (P:=P) w t kt et (β m) es clock hu (by rw[←hβm]; exact q1)
  rw[hβi,hβm]
  simp[this,Result.andThen]
 refine Qht rfl rfl hrun ?_
 show(Code.block out _).wp P Q _ _
 refine wp_block ?_
 obtain⟨z,hz,hend⟩:=Yq hs
 have hallz:=Qo7 (Qz0 hz q0)
 obtain⟨f,hf⟩:∃f,f=Qq2 nxt body B0 nx mo pr kk vv:=⟨_,rfl⟩
 rw[←hf]at hallz
 have hblt:Nat.blt it 100000=true:=Qaw hd
 have hsel:⟨it,[],.p it []⟩∈B0.fix:=by rw[hB0f]; exact .head _
 obtain⟨dn,on⟩:=Y2 hWn hX hr
 obtain⟨dm,om⟩:=Y2 hWm hX hr
 obtain⟨dp,op⟩:=Y2 hWp hX hr
 have hNMs:∀s:Γ.De,V2 ((B0.re (enc Γ s)).flat.mem)=true:=fun s=>Qo9 (Qtd hNK) hNB
 have hI0:Iy X β1 ρ0 (B0.re (enc Γ s0)).flat [Qi3 ys0 es.toList] [Y3 (β1 m) (.map es clock),Y3 w.heap.size (.mapIter (some (β1 m)) clock #[] clock)] (a.put (some it) (.pointer (some ⟨β1 it,0,none⟩))) (w.alloc (.mapIter (some (β1 m)) clock #[] clock)):=by
  have:=q6 (.mapIter (some (β1 m)) clock #[] clock)
  rw[hx0]at this
  exact this
 have back:∀(β':Nat→Nat) (ρ':Nat→Value) (S':St) (env2:List En) (a':Act) (w':World) (o:Obj),β' m=β1 m→Iy X β' ρ' ⟨env2,S'.mem++B0.fixM⟩ [Qi3 ys0 es.toList] [Y3 (β1 m) (.map es clock),Y3 w.heap.size o] a' w' →
   (∀e∈Jx (Jx S'.env nx) mo,e∈env2)→(∀e∈E.fix,e∈env2)→Rel X β' ρ' (Qzm S1 ks ms nx mo S').flat a' w':=by
  intro β' ρ' S' env2 a' w' o e3 hF hin hin2
  rw[←e3]at hF
  have u1:=hF.unpin q0 q2 q3 q4
  have u2:Rel X β' ρ' ⟨(Qzm S1 ks ms nx mo S').flat.env,(m,.map kk vv xs)::(S'.mem++B0.fixM)⟩ a' w':=Rel.less (S:=⟨env2,(m,.map kk vv xs)::(S'.mem++B0.fixM)⟩) u1 fun e he=>by
   have he:e∈(Jx (Jx S'.env nx) mo++Qpx S1.env ks)++S1.fix:=he
   rw[List.append_assoc]at he
   grind
  refine u2.permM ?_
  show List.Perm _ ((S'.mem++(Jp S1.mem ms).2)++S1.fixM)
  rw[List.append_assoc,←hEM,hB0M]
  exact(List.perm_middle.symm).trans ((Fy hl).symm.append_left S'.mem)
 refine Qch (fun fuel a' w'=>∃(s:Γ.De) (β':Nat→Nat) (ρ':Nat→Value) (seen:Array Nat) (c0:Nat),agP (it::m::S1.prot) β1 β' ρ0 ρ' ∧
   Iy X β' ρ' (B0.re (enc Γ s)).flat [Qi3 ys0 es.toList] [Y3 (β1 m) (.map es clock),Y3 w.heap.size (.mapIter (some (β1 m)) clock seen c0)] a' w'∧clock≤c0∧fuel=(leftOf es seen).size ∧
   ∀ys:List (kk.De×vv.De),ys.Perm (Az es.toList ys0 seen)→Mz f ys s=some z) (leftOf es #[]).size ⟨s0,β1,ρ0,#[],clock,agP.refl _ _ _,hI0,QY _,rfl,fun ys hys=>hallz ys (by rw[Qo8 hlen]at hys; exact hys)⟩ ?_
 rintro fuel a1 w1 ⟨s,β',ρ',seen,c0,hag,hF,hc0,rfl,hfold⟩
 have hβ'i:β' it=w.heap.size:=by rw[(hag it (.head _)).1,hβi]
 have hβ'm:β' m=β1 m:=(hag m (.tail _ (.head _))).1
 have hpr:∀i∈S1.prot,i≠it:=fun i hi e=>by
  rw[hEp]at hfp
  rw[e]at hi
  rw[Kw.2 (List.mem_cons_of_mem m hi)]at hfp; cases hfp
 have hags:∀{β4:Nat→Nat} {ρ4:Nat→Value},agP (it::m::S1.prot) β1 β4 ρ0 ρ4→agP S1.prot β β4 ρ ρ4:=fun hg i hi=>by
  obtain⟨g1,g2⟩:=hg i (.tail _ (.tail _ hi))
  obtain⟨g3,g4⟩:=hag0 i (.tail _ hi)
  exact⟨by rw[g1,hβ1,Xr β0 _ (hpr i hi),g3],by rw[g2,g4]⟩
 have hFs:Sb (fun _=>0) X [] _ [] (Qj β' ρ' (B0.re (enc Γ s)).flat.mem++[Y3 (β1 m) (.map es clock),Y3 w.heap.size (.mapIter (some (β1 m)) clock seen c0)]) a1 w1:=hF
 have hhm:w1.heap[β1 m]?=some (.map es clock):=(hFs.own (Y3 (β1 m) (.map es clock)) (by simp)).1
 have hhr:w1.heap[w.heap.size]?=some (.mapIter (some (β1 m)) clock seen c0):=(hFs.own (Y3 w.heap.size (.mapIter (some (β1 m)) clock seen c0)) (by simp)).1
 have hit:a1.eval (.tmp it)=.pointer (some ⟨w.heap.size,0,none⟩):=by
  obtain⟨cs,g1,g2⟩:=(hF.en (e:=⟨it,[],.p it []⟩) (List.mem_append_right _ hsel)).1 (Qf _)
  have g2:cs=[.pointer (some ⟨β' it,0,none⟩)]:=g2
  subst g2
  rw[←hβ'i]
  exact Q4h g1 hblt
 have hadd:∀{d:Nat} {l:List En},Rr d B0.fix=true→Jx (l++B0.fix) d=Jx l d++B0.fix:=fun h=>We h
 refine wp_seq (wp_region_list ?_)
 have hnext:=run_next_at (P:=P) w1 ty2 w.heap.size (β1 m) clock c0 seen es clock hhr hhm q4 hc0
 rcases hnext with⟨hz0,hnx⟩ | ⟨e,he,w2,hw2,hnx⟩
 ·
  have hr1:(execOp a1.eval ⟨some nx,.next (.tmp it) false,ty2,p2,f2,none⟩).run P w1=.ok (.value (.tuple #[.bool false])) w1:=by
   unfold execOp
   simp only[hit]
   simp[hnx,Result.andThen]
  refine Qht rfl rfl hr1 ?_
  have ev1:(a1.put (some nx) (.tuple #[.bool false])).eval (.tmp nx)=.tuple #[.bool false]:=by
   simp[Act.eval,Act.put,hF.sz,Qcg dn]
  have hr2:(execOp (a1.put (some nx) (.tuple #[.bool false])).eval ⟨some mo,.extract (.tmp nx) 0,ty3,p3,f3,none⟩).run P w1=.ok (.value (.bool false)) w1:=by
   unfold execOp
   simp only[ev1]
   simp[Instr.extract,Result.andThen]
  refine Qht rfl rfl hr2 ?_
  have hD:=(hF.del hr (d:=nx) (.tuple #[.bool false])).del hr (d:=mo) (.bool false)
  have ev2:((a1.put (some nx) (.tuple #[.bool false])).put (some mo) (.bool false)).eval (.tmp mo)=.bool false:=by
   simp[Act.eval,Act.put,hF.sz,Qcg dm]
  show(Code.seq _ _).wp P _ _ _
  refine wp_seq (wp_cond_split ev2 (fun hh=>by cases hh) fun _=>wp_exit ?_)
  show Exit.inBlock out Q (.exit out) _ _
  simp only[Exit.inBlock,if_true]
  have hzz:some (.inl s)=some z:=by
   have:=hfold [] (by rw[Qtc (Q4d hz0)])
   exact this
  injection hzz with hzz; subst hzz
  refine H .n β' ρ' _ _ _ hend ⟨rfl,rfl,rfl,hags hag⟩ ?_
  refine back β' ρ' (enc Γ s) _ _ _ _ hβ'm hD (fun e he=>?_) fun e he=>?_
  ·show e∈Jx (Jx ((enc Γ s).env++B0.fix) nx) mo
   rw[hadd on,hadd om]
   grind
  ·show e∈Jx (Jx ((enc Γ s).env++B0.fix) nx) mo
   rw[hadd on,hadd om,hB0f]
   grind
 ·
  obtain⟨hel,hsn⟩:=Qtb he
  obtain⟨x,hzip,hpm⟩:=Qta hlen q3 hel hsn
  have hF1:=hF.setI (o':=.mapIter (some (β1 m)) clock (seen.push e.born) clock) hw2
  obtain⟨W,hW'⟩:∃W,W=Go.ChangeMaps.setBlock w2 w.heap.size (.mapIter (some (β1 m)) clock (seen.push e.born) clock):=⟨_,rfl⟩
  rw[←hW']at hF1 hnx
  have hr1:(execOp a1.eval ⟨some nx,.next (.tmp it) false,ty2,p2,f2,none⟩).run P w1=.ok (.value (.tuple #[.bool true,e.key,e.val])) W:=by
   unfold execOp
   simp only[hit]
   simp[hnx,Result.andThen]
  refine Qht rfl rfl hr1 ?_
  have ev1:(a1.put (some nx) (.tuple #[.bool true,e.key,e.val])).eval (.tmp nx)=.tuple #[.bool true,e.key,e.val]:=by
   simp[Act.eval,Act.put,hF.sz,Qcg dn]
  have hr2:(execOp (a1.put (some nx) (.tuple #[.bool true,e.key,e.val])).eval ⟨some mo,.extract (.tmp nx) 0,ty3,p3,f3,none⟩).run P W=.ok (.value (.bool true)) W:=by
   unfold execOp
   simp only[ev1]
   simp[Instr.extract,Result.andThen]
  refine Qht rfl rfl hr2 ?_
  have hD:=(hF1.del hr (d:=nx) (.tuple #[.bool true,e.key,e.val])).del hr (d:=mo) (.bool true)
  obtain⟨a2,ha2⟩:∃a2,a2=(a1.put (some nx) (.tuple #[.bool true,e.key,e.val])).put (some mo) (.bool true):=⟨_,rfl⟩
  have ev2:a2.eval (.tmp mo)=.bool true:=by
   rw[ha2]; simp[Act.eval,Act.put,hF.sz,Qcg dm]
  rw[←ha2]at hD ⊢
  show(Code.seq _ _).wp P _ _ _
  refine wp_seq (wp_cond_split ev2 (fun _=>wp_skip ?_) fun hh=>by cases hh)
  show(Code.block nxt _).wp P _ _ _
  refine wp_block (wp_seq (wp_region_list ?_))
  have hDs:Sb (fun _=>0) X [] _ [] (Qj β' ρ' (B0.re (enc Γ s)).flat.mem++[Y3 (β1 m) (.map es clock),Y3 w.heap.size (.mapIter (some (β1 m)) clock (seen.push e.born) clock)]) a2 W:=hD
  have hhm2:W.heap[β1 m]?=some (.map es clock):=(hDs.own (Y3 (β1 m) (.map es clock)) (by simp)).1
  have hhr2:W.heap[w.heap.size]?=some (.mapIter (some (β1 m)) clock (seen.push e.born) clock):=(hDs.own (Y3 w.heap.size (.mapIter (some (β1 m)) clock (seen.push e.born) clock)) (by simp)).1
  have hmp:W8 (rt kk) (rt vv) (okF X β' ρ' (B0.re (enc Γ s)).flat.mem [Y3 (β1 m) (.map es clock),Y3 w.heap.size (.mapIter (some (β1 m)) clock (seen.push e.born) clock)] W) W ys0 es.toList:=Jh.1 hDs.dat (Qi3 ys0 es.toList) (.head _)
  have hit2:a2.eval (.tmp it)=.pointer (some ⟨w.heap.size,0,none⟩):=by
   obtain⟨cs,g1,g2⟩:=(hD.en (e:=⟨it,[],.p it []⟩) (by
    show _∈Jx (Jx ((enc Γ s).env++B0.fix) nx) mo
    rw[hadd on,hadd om]
    grind)).1 (Qf _)
   have g2:cs=[.pointer (some ⟨β' it,0,none⟩)]:=g2
   subst g2
   rw[←hβ'i]
   exact Q4h g1 hblt
  have hr3:(execOp a2.eval ⟨some pr,.entry (.tmp it),ty4,p4,f4,none⟩).run P W=.ok (.value (.tuple #[e.key,e.val])) W:=by
   have:=run_entry_at (P:=P) W w.heap.size (β1 m) clock seen es clock e hhr2 hhm2 hel q3
   unfold execOp
   simp only[hit2]
   simp[this,Result.andThen]
  refine Qht rfl rfl hr3 ?_
  obtain⟨v1,v2⟩:=Q4g hmp _ hzip
  obtain⟨c1,g1,g2⟩:=isVal (β:=β') (ρ:=ρ') v1
  obtain⟨c2,g3,g4⟩:=isVal (β:=β') (ρ:=ρ') v2
  have hP:=hD.put0 hr dp (x:=.tp (.cons (.d kk x.1) (.cons (.d vv x.2) .nil))) (c:=[.tuple #[e.key,e.val]]) ⟨[e.key,e.val],rfl,c1,[e.val],by rw[g1],g2,c2,[],by rw[g3],g4,rfl⟩
  obtain⟨S3,hS3⟩:∃S3,S3=Jsv (B0.re (enc Γ s)) nx mo pr (.tp (.cons (.d kk x.1) (.cons (.d vv x.2) .nil))):=⟨_,rfl⟩
  have hP:Iy X β' ρ' S3.flat [Qi3 ys0 es.toList] [Y3 (β1 m) (.map es clock),Y3 w.heap.size (.mapIter (some (β1 m)) clock (seen.push e.born) clock)] (a2.put (some pr) (.tuple #[e.key,e.val])) W:=by
   have e2:S3.flat=⟨⟨pr,[],.tp (.cons (.d kk x.1) (.cons (.d vv x.2) .nil))⟩::Jx (Jx (Jx (B0.re (enc Γ s)).flat.env nx) mo) pr,(B0.re (enc Γ s)).flat.mem⟩:=by
    rw[hS3]
    grind [XS.flat,Jsv,XS.re]
   rw[e2]; exact hP
  have hmem3:S3.flat.mem=(B0.re (enc Γ s)).flat.mem:=by rw[hS3]; rfl
  obtain⟨X1,y1,y2,y3,y4,y5,y6⟩:=Q88 hK.2 hr hpin hP (by rw[hmem3]; exact hNMs s)
  have hfx:Mz f (x::Az es.toList ys0 (seen.push e.born)) s=some z:=hfold _ hpm.symm
  have hbody:f x s=Qq2 nxt body B0 nx mo pr kk vv x s:=by rw[hf]
  cases hq:f x s with
  | none=>grind [Mz]
  | some q =>
   rw[hq]at hbody
   unfold Qq2 at hbody
   rw[←hS3]at hbody
   have hBf:S3.fix=B0.fix∧S3.fixM=B0.fixM∧S3.prot=B0.prot:=by rw[hS3]; exact⟨rfl,rfl,rfl⟩
   refine hb X1 β' ρ' _ W S3 _ q _ (y1.trans hX) y2 y3 ⟨hK.1,y4⟩ y5 hbody.symm fun ex β3 ρ3 S' a' w' hk1 hkp hrel=>?_
   have hk3:S'.fix=B0.fix∧S'.fixM=B0.fixM∧S'.prot=B0.prot:=⟨hkp.fix.trans hBf.1,hkp.fixM.trans hBf.2.1,hkp.prot.trans hBf.2.2⟩
   have hag3:agP (it::m::S1.prot) β' β3 ρ' ρ3:=by have:=hkp.ag; rw[hBf.2.2,hB0p]at this; exact this
   have again:∀s':Γ.De,S'.dec Γ=some s'→q=.inl s'→∃k,k<(leftOf es seen).size∧∃(s:Γ.De) (β':Nat→Nat) (ρ':Nat→Value) (seen:Array Nat) (c0:Nat),agP (it::m::S1.prot) β1 β' ρ0 ρ' ∧
     Iy X β' ρ' (B0.re (enc Γ s)).flat [Qi3 ys0 es.toList] [Y3 (β1 m) (.map es clock),Y3 w.heap.size (.mapIter (some (β1 m)) clock seen c0)] a' w'∧clock≤c0∧k=(leftOf es seen).size ∧
     ∀ys:List (kk.De×vv.De),ys.Perm (Az es.toList ys0 seen)→Mz f ys s=some z:=by
    intro s' hs' hqs
    obtain⟨β4,ρ4,hag4,z1⟩:=Ma (S0:=B0) hrel hk3 hs'
    rw[hB0p]at hag4
    refine⟨(leftOf es (seen.push e.born)).size,Q4e he,s',β4,ρ4,seen.push e.born,clock,(hag.trans hag3).trans hag4,y6 _ _ _ _ _ z1,QY _,rfl,fun ys hys=>?_⟩
    have:=hfold (x::ys) ((hys.cons x).trans hpm.symm)
    grind [Mz]
   have leave:∀(e2:Ex) (y:Qet exs),inj exs e2 S'=some y→q=.inr y→Q (Qlo out e2).exit a' w':=by
    intro e2 y hy hqy
    have hzy:z=.inr y:=by
     grind [Mz]
    subst hzy
    obtain⟨β4,ρ4,S9,w1',w2',w3'⟩:=Qj0 (S:=B0) [] [] hy hend ⟨hk3.1,hk3.2.1,hk3.2.2⟩ hrel
    rw[hB0p]at w2'
    have hF9:=y6 _ _ _ _ _ w3'
    have hagA:=(hag.trans hag3).trans w2'
    refine H (Qlo out e2) β4 ρ4 _ a' w' w1' ⟨rfl,rfl,rfl,hags hagA⟩ (back β4 ρ4 _ _ _ _ _ (hagA m (.tail _ (.head _))).1 hF9 (fun e he=>?_) fun e he=>?_)
    ·grind [List.mem_append_left,Iq]
    ·refine List.mem_append_right _ ?_
     show e∈B0.fix
     rw[hB0f]; exact .tail _ he
   cases ex with
   | n =>
    simp only[Qlo]at hk1
    split at hk1
    ·rename_i s' hs'
     injection hk1 with hk1
     exact again s' hs' hk1.symm
    ·cases hk1
   | r =>
    simp only[Qlo]at hk1
    split at hk1
    ·rename_i y hy
     injection hk1 with hk1
     exact leave .r y hy hk1.symm
    ·cases hk1
   | x i =>
    show Exit.inBlock nxt _ (.exit i) a' w'
    simp only[Exit.inBlock]
    cases hbi:Nat.beq i nxt with
    | true =>
     rw[if_pos (Nat.eq_of_beq_eq_true hbi)]
     simp only[Qlo,hbi,cond_true]at hk1
     split at hk1
     ·rename_i s' hs'
      injection hk1 with hk1
      exact again s' hs' hk1.symm
     ·cases hk1
    | false =>
     rw[if_neg fun e=>by rw[e,Nat.beq_refl]at hbi; cases hbi]
     simp only[Qlo,hbi,cond_false]at hk1
     split at hk1
     ·rename_i y hy
      injection hk1 with hk1
      have:=leave (.x i) y hy hk1.symm
      show Exit.inBlock out Q (.exit i) a' w'
      simp only[Exit.inBlock]
      simp only[Qlo]at this
      cases hbo:Nat.beq i out with
      | true =>
       rw[hbo]at this
       rw[if_pos (Nat.eq_of_beq_eq_true hbo)]
       exact this
      | false =>
       rw[hbo]at this
       rw[if_neg fun e=>by rw[e,Nat.beq_refl]at hbo; cases hbo]
       exact this
     ·cases hk1
theorem Jfj{ops:List Oper}{o1 o2 o3:Oper}{mo t mt it nx pr:Nat}(h:Q8t ops o1 o2 o3 mo=some (t,mt,it,nx,pr)) :
  (∃ty p f,ops.getLast?=some ⟨some it,.range t (.tmp mt),ty,p,f,none⟩)∧(∃ty p f,o1=⟨some nx,.next (.tmp it) false,ty,p,f,none⟩)∧(∃ty p f,o2=⟨some mo,.extract (.tmp nx) 0,ty,p,f,none⟩)∧∃ty p f,o3=⟨some pr,.entry (.tmp it),ty,p,f,none⟩:=by
 unfold Q8t at h
 split at h
 ·rename_i hl
  obtain⟨hb,h⟩:=bvT h
  simp_all
 ·cases h
end
end Gx

/- Control. -/
namespace Gx
open Go Go.RowKit Gd
set_option linter.unusedVariables false
set_option linter.unusedSimpArgs false
section
variable {P:Program} {Y:TX} {X:Cx} {S:XS} {β β':Nat→Nat} {ρ ρ':Nat→Value} {a a':Act} {w w':World} {n N:Nat} {K:List Con}
variable {Q:Exit→Act→World→Prop} {R:Type} {r:R}
theorem Ux(hT:Q0 P Y.T)(hmix:P.follows .mixedOrders=true):∀{X:Cx} (hK:KsX P Y X K) (hX:X.n=n) (hr:X.res=[]) (hpin:X.pin=none) {R:Type} {r:R} (an:An) {c:Code} {S:XS} {β:Nat→Nat} {ρ:Nat→Value} {a:Act} {w:World} {k:Ex→XS→Option R} {Q:Exit→Act→World→Prop},
  Rel X β ρ S.flat a w→Up Y K n N an c S k=some r→COk Q X S β ρ k r→c.wp P Q a w
 | X,hK,hX,hr,hpin,R,r,.nil,c,S,β,ρ,a,w,k,Q,h,hs,H=>by
  cases c<;>simp only[Up]at hs<;>first | (cases hs; done) | skip
  ·exact wp_skip (H .n β ρ S a w hs (Vh.refl _ _ _) h)
  ·rename_i id; exact wp_exit (H (.x id) β ρ S a w hs (Vh.refl _ _ _) h)
  ·exact wp_label (H .n β ρ S a w hs (Vh.refl _ _ _) h)
  ·exact wp_ret (H .r β ρ S a w hs (Vh.refl _ _ _) h)
 | X,hK,hX,hr,hpin,R,r,.reg hn,c,S,β,ρ,a,w,k,Q,h,hs,H=>by
  cases c with
  | region id ops draw =>
   obtain⟨ops⟩:=ops
   cases draw with
   | true=>simp[Up]at hs
   | false =>
    simp only[Up]at hs
    refine wp_region_list ?_
    have:=Vq hT hK hX hr (Q:=Q) hn (l:=ops) (rest:=[]) h hs fun β' ρ' S' a' w' h1 h2 h3=>H .n β' ρ' S' a' w' h1 h2 h3
    grind
  | _=>simp[Up]at hs
 | X,hK,hX,hr,hpin,R,r,.dr m g1 g2,c,S,β,ρ,a,w,k,Q,h,hs,H=>by
  cases c with
  | region id ops draw =>
   obtain⟨ops⟩:=ops
   cases draw with
   | false=>simp[Up]at hs
   | true =>
    simp only[Up]at hs
    obtain⟨hb,hs⟩:=bvT hs
    have hm:P.follows .mixedOrders=true:=hmix
    unfold Jiq at hb
    have tail:∀(β':Nat→Nat) (ρ':Nat→Value) (S':XS) (a':Act),Va Y K n ops g2 (ops.drop m) S' (k .n)=some r→Vh S S' β β' ρ ρ'→Rel X β' ρ' S'.flat a' { w with drawn:=w.drawn+1 }→wpList P ⟨ops⟩ Q (ops.drop m) a' { w with drawn:=w.drawn+1 }:=by
     intro β' ρ' S' a' h1 h2 h3
     have:=Vq hT hK hX hr (Q:=Q) g2 (l:=ops.drop m) (rest:=[]) h3 h1 fun β2 ρ2 S2 a2 w2 q1 q2 q3=>H .n β2 ρ2 S2 a2 w2 q1 (h2.trans q2) q3
     grind
    cases hlt:Nat.blt m ops.length with
    | true =>
     rw[hlt]at hb
     refine wp_region_still_tail m hm hb ?_
     have:=Qcx hT hX hr (w:={ w with drawn:=w.drawn+1 }) (Qs:=fun a'=>wpList P ⟨ops⟩ Q (ops.drop m) a' { w with drawn:=w.drawn+1 }) g1 (l:=ops.take m) (rest:=[]) h.drew hs fun β' ρ' S' a' h1 h2 h3=>tail β' ρ' S' a' h1 h2 h3
     grind
    | false =>
     rw[hlt]at hb
     simp only[cond_false,QQ]at hb
     have hm2:=Nat.eq_of_beq_eq_true hb.1
     refine wp_region_still_lit hm hb.2 ?_
     have:=Qcx hT hX hr (w:={ w with drawn:=w.drawn+1 }) (Qs:=fun a'=>wpList P ⟨ops⟩ Q (ops.drop m) a' { w with drawn:=w.drawn+1 }) g1 (l:=ops.take m) (rest:=[]) h.drew hs fun β' ρ' S' a' h1 h2 h3=>tail β' ρ' S' a' h1 h2 h3
     rw[hm2]at this
     simp only[List.take_length,QH,ZZ]at this
     exact this
  | _=>simp[Up]at hs
 | X,hK,hX,hr,hpin,R,r,.dc p ds zs zf ht,c,S,β,ρ,a,w,k,Q,h,hs,H=>by
  cases c with
  | region id ops draw =>
   obtain⟨ops⟩:=ops
   cases draw with
   | false=>simp[Up]at hs
   | true =>
    simp only[Up]at hs
    obtain⟨hb,hs⟩:=bvT hs
    simp only[QQ]at hb
    refine Q87 hT hmix hK hX hr hpin h hb.1 hb.2 hs fun β' ρ' S' a' w' h' h1 h2 h3=>?_
    have:=Vq hT hK hX hr (Q:=Q) h' (l:=ops.drop p) (rest:=[]) h3 h1 fun β2 ρ2 S2 a2 w2 q1 q2 q3=>H .n β2 ρ2 S2 a2 w2 q1 (h2.trans q2) q3
    grind
  | _=>simp[Up]at hs
 | X,hK,hX,hr,hpin,R,r,.ch t i x y,c,S,β,ρ,a,w,k,Q,h,hs,H=>by
  simp only[Up]at hs
  cases hb:Jir S t i with
  | true=>rw[hb]at hs; exact Ux hT hmix hK hX hr hpin x h hs H
  | false=>rw[hb]at hs; exact Ux hT hmix hK hX hr hpin y h hs H
 | X,hK,hX,hr,hpin,R,r,.cn t x y,c,S,β,ρ,a,w,k,Q,h,hs,H=>by
  simp only[Up]at hs
  cases hb:Jis S t with
  | true=>rw[hb]at hs; exact Ux hT hmix hK hX hr hpin x h hs H
  | false=>rw[hb]at hs; exact Ux hT hmix hK hX hr hpin y h hs H
 | X,hK,hX,hr,hpin,R,r,.gh g x,c,S,β,ρ,a,w,k,Q,h,hs,H=>by
  simp only[Up]at hs
  obtain⟨S1,β1,ρ1,q1,q2,q3⟩:=Qcw g h hs
  exact Ux hT hmix hK hX hr hpin x q3 q1 (H.after q2)
 | X,hK,hX,hr,hpin,R,r,.two x y,c,S,β,ρ,a,w,k,Q,h,hs,H=>by
  cases c<;>simp only[Up]at hs<;>first | (cases hs; done) | skip
  ·rename_i c1 c2
   refine wp_seq (Ux hT hmix hK hX hr hpin x h hs fun e β' ρ' S' a' w' h1 h2 h3=>?_)
   cases e with
   | n=>exact Ux hT hmix hK hX hr hpin y h3 h1 (H.after h2)
   | x i=>exact H (.x i) β' ρ' S' a' w' h1 h2 h3
   | r=>exact H .r β' ρ' S' a' w' h1 h2 h3
  ·rename_i co c1 c2
   split at hs
   ·rename_i v hv
    obtain⟨cs,h1,h2⟩:=h.ev (Qf a) hv
    have h2':cs=_:=h2
    subst h2'
    have h1':a.eval co=.bool v:=h1
    refine wp_cond_split h1' (fun hv=>?_) (fun hv=>?_)
    ·rw[if_pos hv]at hs
     exact Ux hT hmix hK hX hr hpin x h hs H
    ·rw[if_neg (by rw[hv]; simp)]at hs
     exact Ux hT hmix hK hX hr hpin y h hs H
   ·cases hs
 | X,hK,hX,hr,hpin,R,r,.un x,c,S,β,ρ,a,w,k,Q,h,hs,H=>by
  cases c<;>simp only[Up]at hs<;>first | (cases hs; done) | skip
  ·rename_i id c1
   refine wp_block (Ux hT hmix hK hX hr hpin x h hs fun e β' ρ' S' a' w' h1 h2 h3=>?_)
   cases e with
   | n=>exact H .n β' ρ' S' a' w' h1 h2 h3
   | x i =>
    simp only at h1
    show if i=id then Q .normal a' w' else Q (.exit i) a' w'
    cases hb:Nat.beq i id with
    | true =>
     rw[hb]at h1
     rw[if_pos (Nat.eq_of_beq_eq_true hb)]
     exact H .n β' ρ' S' a' w' h1 h2 h3
    | false =>
     rw[hb]at h1
     rw[if_neg (fun e=>by rw[e,Nat.beq_refl]at hb; cases hb)]
     exact H (.x i) β' ρ' S' a' w' h1 h2 h3
   | r=>exact H .r β' ρ' S' a' w' h1 h2 h3
  ·refine wp_scope_straight (Ux hT hmix hK hX hr hpin x h hs fun e β' ρ' S' a' w' h1 h2 h3=>?_)
   cases e with
   | n=>exact H .n β' ρ' S' a' w' h1 h2 h3
   | x i=>exact H (.x i) β' ρ' S' a' w' h1 h2 h3
   | r=>exact H .r β' ρ' S' a' w' h1 h2 h3
 | X,hK,hX,hr,hpin,R,r,.jn ks ms exs x,c,S,β,ρ,a,w,k,Q,h,hs,H=>by
  simp only[Up]at hs
  obtain⟨z,hz,ho⟩:=Yq hs
  refine Ux hT hmix hK hX hr hpin x (h.ent ks ms) hz fun e β' ρ' S' a' w' h1 h2 h3=>?_
  obtain⟨β2,ρ2,S1,h4,h5,h6⟩:=Qj0 ks ms h1 ho ⟨h2.fix,h2.fixM,h2.prot⟩ h3
  refine H e β2 ρ2 _ a' w' h4 ⟨rfl,rfl,rfl,?_⟩ h6
  exact agP.trans h2.ag h5
 | X,hK,hX,hr,hpin,R,r,.mp g ks ms Γ exs g3 x,c,S,β,ρ,a,w,k,Q,h,hs,H=>by
  unfold Up at hs
  split at hs<;>first | (simp only[reduceCtorEq]at *; done) | skip
  rename_i id2 ops out id1 o1 o2 mo out' nxt id0 o3 ops3 c1 heq
  cases heq
  split at hs
  ·rename_i t mt it nx pr hh
   obtain⟨hout0,hs2⟩:=bvT hs
   clear hs
   have hout:=Nat.eq_of_beq_eq_true hout0
   subst hout
   obtain⟨⟨ty1,p1,f1,hlast⟩,⟨ty2,p2,f2,rfl⟩,⟨ty3,p3,f3,rfl⟩,ty4,p4,f4,rfl⟩:=Jfj hh
   have hops:ops=ops.dropLast++[⟨some it,.range t (.tmp mt),ty1,p1,f1,none⟩]:=by
    grind [List.getLast?_eq_some_iff,List.dropLast_concat]
   refine wp_seq (wp_region_list ?_)
   show wpList P ⟨ops⟩ _ ops a w
   refine Eq.mpr (congrArg (fun l=>wpList P ⟨ops⟩ _ l a w) hops) ?_
   exact Vq hT hK hX hr (ops:=ops) g (l:=ops.dropLast) (rest:=[⟨some it,.range t (.tmp mt),ty1,p1,f1,none⟩]) h hs2 fun β' ρ' S' a' w' h1 h2 h3=>by
    split at h1
    ·rename_i m tk hm htk
     split at h1
     ·rename_i kk vv xs hl
      exact Jva hT hK hX hr hpin h3 hm htk hl h1 (H.after h2) fun X1 β ρ a w S3 k1 r1 Q1 e1 e2 e3 e4 e5 e6 e7=>by
       have:=Vq hT e4 e1 e2 (Q:=Exit.then (c1.wp P Q1) Q1) g3 (l:=ops3) (rest:=[]) e5 e6 fun β' ρ' S' a' w' g1 g2 g3=>Ux hT hmix e4 e1 e2 e3 x g3 g1 (e7.after g2)
       grind
     ·cases h1
    ·cases h1
  ·cases hs
 | X,hK,hX,hr,hpin,R,r,.lp ks ms Γ exs x,c,S,β,ρ,a,w,k,Q,h,hs,H=>by
  cases c<;>simp only[Up]at hs<;>first | (cases hs; done) | skip
  rename_i c1
  split at hs
  ·rename_i s0 hs0
   obtain⟨z,hz,ho⟩:=Yq hs
   obtain⟨β1,ρ1,h1,h2⟩:=Ma (S0:=S.ent ks ms) (h.ent ks ms) ⟨rfl,rfl,rfl⟩ hs0
   refine Qch (fun m a w=>∃s β' ρ',agP S.prot β β' ρ ρ'∧Rel X β' ρ' ((S.ent ks ms).re (enc Γ s)).flat a w∧Ql _ m s=some z) N ⟨s0,β1,ρ1,h1,h2,hz⟩ ?_
   rintro m a1 w1 ⟨s,β',ρ',h3,h4,h5⟩
   cases m with
   | zero=>simp[Ql]at h5
   | succ m =>
    simp only[Ql]at h5
    obtain⟨q,hq,h5⟩:=Yq h5
    refine Ux hT hmix hK hX hr hpin x h4 hq fun e β2 ρ2 S' a' w' h6 h7 h8=>?_
    cases e with
    | n =>
     simp only at h6
     split at h6
     ·rename_i s' hd
      injection h6 with h6; subst h6
      obtain⟨β3,ρ3,h9,h10⟩:=Ma (S0:=S.ent ks ms) h8 ⟨h7.fix,h7.fixM,h7.prot⟩ hd
      exact⟨m,Nat.lt_succ_self m,s',β3,ρ3,(h3.trans h7.ag).trans h9,h10,h5⟩
     ·cases h6
    | x i =>
     simp only at h6
     split at h6
     ·rename_i s' hd
      injection h6 with h6; subst h6
      injection h5 with h5; subst h5
      obtain⟨β3,ρ3,S1,h9,h10,h11⟩:=Qj0 ks ms hd ho ⟨h7.fix,h7.fixM,h7.prot⟩ h8
      exact H (.x i) β3 ρ3 _ a' w' h9 ⟨rfl,rfl,rfl,(h3.trans h7.ag).trans h10⟩ h11
     ·cases h6
    | r =>
     simp only at h6
     split at h6
     ·rename_i s' hd
      injection h6 with h6; subst h6
      injection h5 with h5; subst h5
      obtain⟨β3,ρ3,S1,h9,h10,h11⟩:=Qj0 ks ms hd ho ⟨h7.fix,h7.fixM,h7.prot⟩ h8
      exact H .r β3 ρ3 _ a' w' h9 ⟨rfl,rfl,rfl,(h3.trans h7.ag).trans h10⟩ h11
     ·cases h6
  ·cases hs
theorem Q4j(p:Addr):(asAddr (.pointer (some p)):Sem Addr)=pure p:=rfl
theorem Qz1(hT:Q0 P Y.T)(h:Rel X β ρ S.flat a w):∀{rs:List ResultVar} {i:Nat} {es:List En} (pre:List Value),pre.length=i→Q8u Y S rs i=some es →
  ∃vs:List Value,vs.length=rs.length∧es.length=rs.length∧Sem.run P (rs.mapM fun r=>match r with | .tmp t=>(pure (a.tmps.getD t undef):Sem Value) | .cell ad t=>do loadVar t (←asAddr (a.tmps.getD ad undef))) w=.ok vs w ∧
   ∀e∈es,(enD β ρ ⟨(pre++vs).toArray,[]⟩ e).p (okR X β ρ S.flat.mem w) w
 | [],i,es,pre,_,he=>by simp[Q8u]at he; subst he; exact⟨[],rfl,rfl,rfl,by simp⟩
 | .tmp t::rs,i,es,pre,hi,he=>by
  simp only[Q8u]at he
  split at he
  ·rename_i v r hv hr
   obtain⟨hbi,he⟩:=bvT he
   simp at he; subst he
   obtain⟨cs,h1,h2⟩:=h.ev (Qf a) hv
   obtain⟨vs,h3,h4,h5,h6⟩:=Qz1 hT h (rs:=rs) (i:=i+1) (pre++[a.tmps.getD t undef]) (by simp[hi]) hr
   refine⟨a.tmps.getD t undef::vs,by simp[h3],by simp[h4],?_,fun e hm=>?_⟩
   ·rw[ZD]
    simp_all
   ·exact resCons hi hbi (h1▸rfl) h2 h6 e hm
  ·cases he
 | .cell ad t::rs,i,es,pre,hi,he=>by
  simp only[Q8u]at he
  split at he
  ·rename_i v r hv hr
   obtain⟨hbi,he⟩:=bvT he
   simp at he; subst he
   obtain⟨cs,h1,h2⟩:=Qlg (P:=P) (o:=⟨none,.load t (.tmp ad),0, "",#[],none⟩) hT h.toW (Qf a) hv
   obtain⟨vs,h3,h4,h5,h6⟩:=Qz1 hT h (rs:=rs) (i:=i+1) (pre++[v.val cs]) (by simp[hi]) hr
   have hp:∃p,a.tmps.getD ad undef=.pointer (some p):=by
    simp only[Qle]at hv
    split at hv
    ·rename_i id path he' hx
     obtain⟨cs1,q1,q2⟩:=h.ev (Qf a) hx
     have q2':cs1=_:=q2
     subst q2'
     exact⟨_,q1⟩
    ·rename_i t' y he' hx
     obtain⟨cs1,q1,v0,q2,b,o,_,q3,_⟩:=h.ev (Qf a) hx
     subst q2; subst q3
     exact⟨_,q1⟩
    ·cases hv
   obtain⟨p,hp⟩:=hp
   have hl:(loadVar t p).run P w=.ok (v.val cs) w:=by
    have h1':=h1
    unfold execOp at h1'
    have hp':a.eval (.tmp ad)=.pointer (some p):=hp
    simp only[hp',Instr.loadAt,Instr.sureAddr,Sem.run_bind,Sem.run_pure,Result.andThen_ok]at h1'
    cases hr:(loadVar t p).run P w with
    | ok v1 w1 =>
     rw[hr]at h1'
     simp_all
    | _=>rw[hr]at h1'; simp_all
   refine⟨v.val cs::vs,by simp[h3],by simp[h4],?_,fun e hm=>?_⟩
   ·rw[ZD]
    simp_all [Q4j,Sem.run_bind,Result.andThen_ok]
   ·exact resCons hi hbi rfl h2 h6 e hm
  ·cases he
where
 resCons {i:Nat} {pre vs:List Value} {v0:Value} {v:AV} {cs:List Value} {r:List En} (hi:pre.length=i) (hbi:Nat.blt i 100000=true) (hv:v0=v.val cs) (h2:cr β ρ (okR X β ρ S.flat.mem w) w false v cs)
   (h6:∀e∈r,(enD β ρ ⟨(pre++[v0]++vs).toArray,[]⟩ e).p (okR X β ρ S.flat.mem w) w):∀e∈(⟨i,[],v⟩::r:List En),(enD β ρ ⟨(pre++v0::vs).toArray,[]⟩ e).p (okR X β ρ S.flat.mem w) w:=by
  intro e hm
  have hl:pre++[v0]++vs=pre++(v0::vs):=by simp
  rw[hl]at h6
  rcases QJ.1 hm with rfl | hm
  ·refine⟨fun _=>⟨cs,?_,h2⟩,.inl (Qf _)⟩
   rw[Om hbi]
   grind
  ·exact h6 e hm
theorem Qnu:∀{l:List (Nat×Sk)} {i:Nat} {vs:List DV},Dp l i=true→∀(j:Nat) e,(L8 l vs).1[j]?=some e→e.t=i+j∧e.cs=[]
 | [],i,vs,_,j,e,h=>by simp[L8]at h
 | (t,s)::l,i,vs,hk,j,e,h=>by
  simp only[Dp,QQ]at hk
  simp only[L8]at h
  cases j with
  | zero =>
   simp at h; subst h
   simp_all
  | succ j =>
   obtain⟨h1,h2⟩:=Qnu hk.2 j e (by simpa using h)
   grind
theorem O6:∀{l:List (Nat×Sk)} {vs:List DV},(L8 l vs).1.length=l.length
 | [],vs=>rfl
 | (t,s)::l,vs=>by simp only[L8,List.length_cons,O6]
theorem Q4k{gl:List (Nat×Σ t:Ty,t.De)}{ok ok':Ok}{w:World}{β:Nat→Nat}{ρ:Nat→Value}{a:Act}(h:Ud gl ok w)(hk:∀b o,ok b o→ok' b o):∀e∈Qi1 gl,(enD β ρ a e).p ok' w:=by
 intro e he
 obtain⟨q,hq,rfl⟩:=QZ.1 he
 refine⟨fun _=>⟨[.pointer (some ⟨q.1,0,none⟩)],Q8j a q.1,_,rfl,(h q hq).1.weak hk⟩,.inl (Qf a)⟩
theorem Qhu{P:Program}{gl:List (Nat×Σ t:Ty,t.De)}{c:Con}(h:∀x,c.fn x=none):Qbb P gl c:=fun ok w L β ρ x y vs _ _ _ _ _ hy=>by rw[h]at hy; cases hy
def S00(Y:TX)(c:Con)(x:c.Γ.De):XS:=⟨(enc c.Γ x).env,Qi1 Y.gl,wrM c.ro (enc c.Γ x).mem,rdM c.ro (enc c.Γ x).mem,c.Γ.mem.map Prod.fst⟩
theorem Jp1{ro:List Nat}:∀(M:List (Nat×Ob)),M.Perm (wrM ro M++rdM ro M)
 | []=>.nil
 | q::l=>by
  have ih:=Jp1 (ro:=ro) l
  unfold wrM rdM at *
  cases hm:Yj ro q.1 with
  | true =>
   simp only[XA,hm,Bool.not_true,JG,if_false,if_true]
   exact(List.Perm.cons q ih).trans List.perm_middle.symm
  | false =>
   simp_all
def Jwk(Y:TX)(fn:Func)(c:Con):Ex→XS→Option (Qa6 c.Δ):=fun e S=>match e with
 | .x _=>none
 | .n=>fin Y fn c.Δ S
 | .r=>fin Y fn c.Δ S
theorem Jbx{fn:Func}{c:Con}(hku:Dp c.Γ.env 0=true)(hks:Nat.blt c.Γ.env.length 100000=true){ok:Ok}{w:World}{L:List Nat}{β:Nat→Nat}{ρ:Nat→Value}{x:c.Γ.De}{vs:List Value}{a:Act}(hok:∀b o,ok b o→b<w.heap.size)(hG:Ud Y.gl ok w)(hL:Qk5 (Qj β ρ (enc c.Γ x).mem) L ok w)
  (hargs:∀e∈(enc c.Γ x).env,∃cs,vs[e.t]?=some (e.av.val cs)∧cr β ρ ok w false e.av cs) (h0:Sb (fun _=>0) (cxL L fn.ntmps ok w) (Q2k vs 0) [] [] (Qj β ρ (enc c.Γ x).mem) a w):Rel (cxL L fn.ntmps ok w) β ρ (S00 Y c x).flat a w:=by
 have hp:=(Jp1 (ro:=c.ro) (enc c.Γ x).mem).map fun q=>Qv β ρ q.1 q.2
 have hk0:∀b o,ok b o→okR (cxL L fn.ntmps ok w) β ρ (wrM c.ro (enc c.Γ x).mem++rdM c.ro (enc c.Γ x).mem) w b o:=fun b o hbo=>⟨.inl (.inl hbo),hok b o hbo,by simp,fun t ht hc=>(hL.1 t (hp.mem_iff.2 ht)).2.2 b o (t.cb hc) hbo⟩
 have hR:Rel (cxL L fn.ntmps ok w) β ρ (XS.flat (S00 Y c x)) a w:=by
  have e:XS.flat (S00 Y c x)=⟨(enc c.Γ x).env++Qi1 Y.gl,wrM c.ro (enc c.Γ x).mem++rdM c.ro (enc c.Γ x).mem⟩:=rfl
  rw[e]
  replace h0:=Sb.perm h0 hp
  refine Rel.ofSb h0 rfl fun e he=>?_
  rcases QX.1 he with he | he
  case inr=>grind [Q4k]
  obtain⟨cs,h1,h2⟩:=hargs e he
  have hcs:e.cs=[]:=by
   grind [enc,Qns]
  refine⟨fun _=>⟨cs,?_,Gs h2 hk0⟩,.inl (by rw[hcs]; exact Qf a)⟩
  have hz:∀{us:List Value} {i j:Nat} {v:Value},us[j]?=some v→(i+j,Gd.AV.v v)∈Q2k us i:=by
   intro us
   induction us with
   | nil=>grind
   | cons u us ih =>
    intro i j v h
    cases j with
    | zero=>simp at h; subst h; exact .head _
    | succ j =>
     have:=ih (i:=i+1) (j:=j) (v:=v) (by simpa using h)
     rw[show i+(j+1)=i+1+j by omega]
     exact .tail _ this
  have hsm:Nat.blt e.t 100000=true:=by
   obtain⟨j,hj⟩:=List.getElem?_of_mem he
   have hk2:e.t=0+j:=by
    grind [enc,Qnu,toL]
   have hjl:j<c.Γ.env.length:=by
    have h4:=(List.getElem?_eq_some_iff.1 hj).1
    grind [enc,O6,toL]
   have:=QK hks
   rw[hk2]
   exact Nat.ble_eq_true_of_le (by omega)
  have:=h0.tm _ (hz (i:=0) h1)
  rw[Om hsm]
  grind [My]
 exact hR
theorem Jby{es:List En}{S:XS}:∀{l:List Shp} {y:Qa6 l},Jiu es S l=some y→∃s x,Dp s.env 0=true∧es.length=s.env.length∧S.dec s=some x∧Qh1 l y=enc s x
 | [s],y,h=>by
  simp only[Jiu]at h
  obtain⟨hb,h⟩:=bvT h
  simp only[QQ]at hb
  exact⟨s,y,hb.1,Nat.eq_of_beq_eq_true hb.2,h,rfl⟩
 | s::r::l,y,h=>by
  simp only[Jiu]at h
  split at h
  ·rename_i x hx
   injection h with h
   subst h
   obtain⟨hb,hx⟩:=bvT hx
   simp only[QQ]at hb
   exact⟨s,x,hb.1,Nat.eq_of_beq_eq_true hb.2,hx,rfl⟩
  ·split at h
   ·rename_i y0 hy
    injection h with h
    subst h
    obtain⟨s0,x0,h1,h2,h3,h4⟩:=Jby hy
    exact⟨s0,x0,h1,h2,h3,h4⟩
   ·cases h
theorem Jbz(hT:Q0 P Y.T){fn:Func}{c:Con}{ok:Ok}{w:World}{L:List Nat}{β:Nat→Nat}{ρ:Nat→Value}{x:c.Γ.De}{y:Qa6 c.Δ}{β':Nat→Nat}{ρ':Nat→Value}{S':XS}{a':Act}{w':World}
  (h2:Vh (S00 Y c x) S' β β' ρ ρ') (h3:Rel (cxL L fn.ntmps ok w) β' ρ' S'.flat a' w'):fin Y fn c.Δ S'=some y→bodyPost P fn (Qy3 L w (Q3z c β ρ ok L w x y)) .ret a' w':=by
 intro hfin
 unfold fin at hfin
 split at hfin
 ·rename_i es hes
  obtain⟨hkb,hd⟩:=bvT hfin
  have hksm:=QK hkb
  obtain⟨s,x1,hku,hel,hd,henc⟩:=Jby hd
  obtain⟨rv,r1,r2,r3,r4⟩:=Qz1 hT h3 [] rfl hes
  simp only[QF]at r4
  have hRes:Rel { cxL L fn.ntmps ok w with n:=rv.length } β' ρ' (XS.flat ⟨es,[],S'.mem,S'.fixM,S'.prot⟩) ⟨rv.toArray,[]⟩ w':=by
   have e:XS.flat ⟨es,[],S'.mem,S'.fixM,S'.prot⟩=⟨es,S'.flat.mem⟩:=by simp[XS.flat]
   rw[e]
   have hSb:Sb (fun _=>0) { cxL L fn.ntmps ok w with n:=rv.length } [] [] [] (Qj β' ρ' S'.flat.mem) ⟨rv.toArray,[]⟩ w' :=
    { sz:=by simp,df:=rfl,fr:=by simp,pn:=by simp,tm:=by simp,bel:=h3.bel,dat:=trivial,obj:=by simp,own:=h3.own,dHH:=by simp,dHO:=by simp,dOO:=h3.dOO }
   exact Rel.ofSb hSb rfl fun e he=>r4 e he
  obtain⟨β2,ρ2,h4,h5⟩:=XS.dec_ok hRes hd
  have hfm:S'.fixM=roM c x:=h2.fixM
  have hpr:S'.prot=c.Γ.mem.map Prod.fst:=h2.prot
  rw[hfm]at h5
  have hfacts:∀(j:Nat) e,(enc s x1).env[j]?=some e→∃cs,rv[j]?=some (e.av.val cs)∧cr β2 ρ2 (Je (okL L ok) w.heap.size (fun _=>0) [] (Qj β2 ρ2 ((enc s x1).mem++roM c x)) w') w' false e.av cs:=by
   intro j e he
   have hk2:e.t=0+j∧e.cs=[]:=by
    grind [enc,Qnu,toL]
   have hen:=h5.en (List.mem_append_left _ (List.mem_of_getElem? he))
   obtain⟨cs,q1,q2⟩:=hen.1 (by rw[hk2.2]; exact Qf _)
   rw[hk2.1,QV]at q1
   have hjl:j<s.env.length:=by
    have h4:=(List.getElem?_eq_some_iff.1 he).1
    grind [enc,O6,toL]
   rw[Om (Nat.ble_eq_true_of_le (by omega))]at q1
   grind
  have hlenE:(enc s x1).env.length=rv.length:=by
   grind [enc,O6,toL]
  have hres:(results fn a'.tmps).run P w'=.ok (if h:rv.toArray.size=1 then rv.toArray[0]else .tuple rv.toArray) w':=by
   unfold results
   rw[XP]
   simp only[Sem.run_bind,Sem.run_map,bind_pure_comp]
   exact congrArg (fun z:Result (List Value)=>(z.andThen fun a w'=>Result.ok a.toArray w').andThen fun a w'=>Result.ok (if h:a.size=1 then a[0]else Value.tuple a) w') r3
  refine⟨h3.df,_,hres,_,rfl,?_,h3.bel⟩
  unfold Q3z
  rw[henc]
  refine⟨β2,ρ2,?_,?_,?_,?_⟩
  ·exact agP.trans h2.ag (by rw[←hpr]; exact h4)
  ·by_cases hl1:rv.length=1
   ·obtain⟨e0,he0⟩:=List.length_eq_one_iff.1 (hlenE.trans hl1)
    obtain⟨cs,q1,q2⟩:=hfacts 0 e0 (by rw[he0]; rfl)
    have hra:Qa7 (enc s x1).env=e0.av:=by rw[he0]; rfl
    rw[hra]
    grind
   ·have hra:Qa7 (enc s x1).env=.tp (Qwi (enc s x1).env):=by
     unfold Qa7
     grind
    rw[hra]
    refine⟨[.tuple rv.toArray],?_,rv,rfl,?_⟩
    ·rw[dif_neg (by simpa using hl1)]; rfl
    ·exact Q35 (i:=0) hfacts hlenE.symm
  ·exact fun t ht=>h5.own t ht
  ·exact h5.dOO
 ·cases hfin
theorem Jb0(hT:Q0 P Y.T){f:FuncId}{fn:Func}(hf:P.funcs[f]?=some fn){c:Con}(hcf:c.f=f){code:Code}(hb:fn.body=some code)(hble:Nat.ble c.Γ.env.length fn.ntmps=true)(hku:Dp c.Γ.env 0=true)(hks:Nat.blt c.Γ.env.length 100000=true)
  (hway:∀(x:c.Γ.De) (y:Qa6 c.Δ) (X:Cx) (β:Nat→Nat) (ρ:Nat→Value) (a:Act) (w:World) (Q:Exit→Act→World→Prop),c.fn x=some y→Ud Y.gl (okN X) X.w→X.n=fn.ntmps→X.res=[]→X.pin=none→Rel X β ρ (S00 Y c x).flat a w→COk Q X (S00 Y c x) β ρ (Jwk Y fn c) y→code.wp P Q a w):Qbb P Y.gl c:=by
 intro ok w L β ρ x y vs hok hG hlen hL hargs hy
 rw[hcf]
 refine Jeb (n:=fn.ntmps) (L:=L) (O:=Qj β ρ (enc c.Γ x).mem) (D:=[]) hok hf hb rfl (by rw[hlen]; exact hble) trivial hL fun a h0=>?_
 have hR:=Jbx (Y:=Y) (fn:=fn) hku hks hok hG hL hargs h0
 refine hway x y _ β ρ a w _ hy (hG.weak fun b o hbo=>⟨.inl hbo,fun hbl=>hL.2.2 b hbl |>.elim fun t ht=>(hL.1 t ht.1).2.2 b o ht.2 hbo,hok b o hbo⟩) rfl rfl rfl hR fun e β' ρ' S' a' w' h1 h2 h3=>?_
 have key:=Jbz (y:=y) hT h2 h3
 cases e with
 | n=>exact key h1
 | x i=>cases h1
 | r=>exact key h1
theorem Joh(hT:Q0 P Y.T)(hmix:P.follows .mixedOrders=true)(hK:Q36 P Y.gl K){f:FuncId}{fn:Func}(hf:P.funcs[f]?=some fn){an:An}{c:Con}(hcf:c.f=f)(hrun:∀x,c.fn x=Jiv Y K N fn an c.ro c.Γ c.Δ x):Qbb P Y.gl c:=by
 cases hb:fn.body with
 | none =>
  grind [Qhu,Jiv]
 | some code =>
  by_cases hc:(Nat.ble c.Γ.env.length fn.ntmps&&(Dp c.Γ.env 0&&Nat.blt c.Γ.env.length 100000))=true
  ·have hc':=hc
   simp only[QQ]at hc'
   refine Jb0 hT hf hcf hb hc'.1 hc'.2.1 hc'.2.2 fun x y X β ρ a w Q hy hG hX hr hp hR H=>?_
   rw[hrun]at hy
   unfold Jiv at hy
   rw[hb,hc]at hy
   exact Ux hT hmix ⟨hK,hG⟩ hX hr hp an hR hy H
  ·refine Qhu fun x=>?_
   rw[hrun]
   unfold Jiv
   rw[hb]
   grind
end
end Gx
namespace Gx
open Go
theorem Jvb{P:Program}{gl:List (Nat×Σ t:Ty,t.De)}:Q36 P gl []:=fun _ h=>by cases h
theorem Js4{P:Program}{c:Con}{gl:List (Nat×Σ t:Ty,t.De)}{K:List Con}(h:Qbb P gl c)(hr:Gd.Runs P c.f)(hk:Q36 P gl K):Q36 P gl (c::K):=fun d hd=>by
 rcases QJ.1 hd with rfl | hd
 ·exact⟨h,hr⟩
 ·exact hk d hd
end Gx

/- The rest of the state set aside; objects that are no cells; pieces of code in a round. -/
namespace Gx
open Go Go.RowKit Gd
set_option linter.unusedVariables false
set_option linter.unusedSimpArgs false
section
variable {P:Program} {Y:TX} {X:Cx} {β β':Nat→Nat} {ρ ρ':Nat→Value} {S S':St} {a a':Act} {w w':World}
noncomputable def reX(X:Cx)(β:Nat→Nat)(ρ:Nat→Value)(M:List (Nat×Ob))(w:World):Cx :=
 { cxL (Gb w.heap.size (Qj β ρ M)) X.n (okR X β ρ M w) w with dfs:=X.dfs }
theorem Kr{n:Nat}{O:List TL}{g:Nat}:g∈Gb n O↔g<n∧∃t∈O,t.blks g:=by
 simp_all [Gb,QD,JX,decide_eq_true_eq]
theorem Js5{M:List (Nat×Ob)}(hV:V2 M=true):∀t∈Qj β ρ M,∀b o,t.blks b→t.cov b o:=fun t ht b o hb=>by
 obtain⟨q,hq,rfl⟩:=QZ.1 ht
 grind [Qcy]
theorem Qz2{gl:List (Nat×Σ t:Ty,t.De)}(hG:Ud gl (okN X) X.w)(h:Rel X β ρ S a w)(hV:V2 S.mem=true) :
    Rel (reX X β ρ S.mem w) β ρ S a w∧Ud gl (okN (reX X β ρ S.mem w)) (reX X β ρ S.mem w).w:=by
  have hL1:∀t∈Qj β ρ S.mem,∀g,t.blks g→g∈Gb w.heap.size (Qj β ρ S.mem):=fun t ht g hg=>Kr.2 ⟨h.olt ht hg,t,ht,hg⟩
  have hk:∀b f,Je X.ok X.w.heap.size (fun _=>0) [] (Qj β ρ S.mem) w b f→Je (okL (Gb w.heap.size (Qj β ρ S.mem)) (Je X.ok X.w.heap.size (fun _=>0) [] (Qj β ρ S.mem) w)) w.heap.size (fun _=>0) [] (Qj β ρ S.mem) w b f :=
    fun b f hbo=>⟨.inl (.inl hbo),hbo.2.1,by simp,fun t ht hc=>hbo.2.2.2 t ht hc⟩
  refine⟨?_,?_⟩
  · exact { sz:=h.sz,df:=h.df,fr:=by simp[reX],pn:=by simp[reX],tm:=by simp,bel:=Uz.refl _ _ _,obj:=by simp,dHH:=by simp,dHO:=by simp,
            dat:=Jh.2 fun x hx=>by
              obtain⟨e,he,rfl⟩:=QZ.1 hx
              exact(enD β ρ a e).weak (Jh.1 h.dat _ (QZ.2 ⟨e,he,rfl⟩)) hk,
            own:=fun t ht=>⟨t.weak (h.own t ht).1 hk,fun g hg=>.inr (hL1 t ht g hg)⟩,
            dOO:=h.dOO }
  · exact(Oe h hG).weak fun b f hbo=>⟨.inl hbo,fun hbl=>by
      obtain⟨_,t,ht,hg⟩:=Kr.1 hbl
      exact hbo.2.2.2 t ht (Js5 hV t ht b f hg),hbo.2.1⟩
theorem Qz3(h:Rel X β ρ S a w)(hV:V2 S.mem=true)(hr:X.res=[])(hp:X.pin=none)(hR:Rel (reX X β ρ S.mem w) β' ρ' S' a' w'):Rel X β' ρ' S' a' w':=by
 have hL2:∀g∈Gb w.heap.size (Qj β ρ S.mem),∃t∈Qj β ρ S.mem,t.blks g:=fun g hg=>(Kr.1 hg).2
 have hS:Sb (fun _=>0) X [] (S.env.map (enD β ρ a)) [] (Qj β ρ S.mem++[]) a w:=by rw[QH]; exact h
 have eo:Je X.ok X.w.heap.size (fun _=>0) [] (Qj β ρ S.mem++[]) w=Je X.ok X.w.heap.size (fun _=>0) [] (Qj β ρ S.mem) w:=by rw[QH]
 have hC:=Sb.callO (O1':=Qj β' ρ' S'.mem) (w':=w') (L:=Gb w.heap.size (Qj β ρ S.mem)) hS hR.bel hL2 (Js5 hV) (fun t ht=>⟨by rw[eo]; exact(hR.own t ht).1,fun g hg=>(hR.own t ht).2 g hg⟩) hR.dOO
 rw[QH]at hC
 have hC3:Sb (fun _=>0) X [] [] [] (Qj β' ρ' S'.mem) a' w' :=
  { sz:=hR.sz,df:=hR.df,fr:=by rw[hr]; simp,pn:=by rw[hp]; simp,tm:=by simp,bel:=hC.bel,dat:=trivial,obj:=by simp,own:=hC.own,dHH:=by simp,dHO:=by simp,dOO:=hC.dOO }
 refine Rel.ofSb hC3 rfl fun e he=>?_
 have h1:=Jh.1 hR.dat _ (QZ.2 ⟨e,he,rfl⟩)
 refine(enD β' ρ' a' e).weak h1 fun b f hbf=>?_
 have h2:=Qa8 (O1':=Qj β' ρ' S'.mem) hS hR.bel.size hL2 b f (by rw[eo]; exact hbf)
 rw[QH]at h2
 exact h2
theorem Qz4{e sz:Nat}{v:Value}{n:Nat}{xs:List Value}(h:w.ownsRowS 0 e sz v n xs){g:Nat}(hg:v.ownBlock=some g):∃o:Obj,w.heap[g]?=some o∧(o.isCells=true∨∃es c,o=.map es c):=by
 rcases h.2 with⟨rfl,_⟩ | ⟨g',cap,cur,fz,rfl,_,hh,_⟩
 ·cases hg
 ·have hg:some g'=some g:=hg
  injection hg with hg; subst hg
  exact⟨_,hh,.inl rfl⟩
theorem Qxa{κ:Type}{c:CK}{hole:Option κ}{hv:Value}{ok:Ok}:∀{xs:List (κ×c.ty.De)} {ys:List (κ×Value)} {vs:List Value},Dk c hole hv ok w xs ys vs→∀v∈vs,∀g,Xi v=some g→∃o:Obj,w.heap[g]?=some o∧(o.isCells=true∨∃es c,o=.map es c)
 | [],[],[],h=>by simp
 | x::xs,y0::ys,v::vs,⟨h1,h3,h4⟩=>by
  intro y hy g hg
  rcases QJ.1 hy with rfl | hy
  ·rcases h3 with⟨_,rfl,_⟩ | ⟨_,_,h3⟩
   ·cases hg
   ·cases c with
    | sl e u =>
     obtain⟨_,cs,h3,_⟩:=h3
     grind [Qz4,Qfe]
    | mp k v =>
     obtain⟨g',rfl,es,c,h1,_⟩:=h3
     injection hg with hg
     grind
  ·exact Qxa h4 y hy g hg
 | [],[],_::_,h=>h.elim
 | [],_::_,_,h=>h.elim
 | _::_,[],_,h=>h.elim
 | _::_,_::_,[],h=>h.elim
theorem Jjm{ok:Ok}{id:Nat}{o:Ob}(h:(Qv β ρ id o).p ok w){g:Nat}(hg:(Qv β ρ id o).blks g):∃o:Obj,w.heap[g]?=some o∧(o.isCells=true∨∃es c,o=.map es c):=by
 cases o with
 | var tid c =>
  obtain⟨cs,h1,_⟩:=h
  have hg:g=β id:=hg
  subst hg
  exact⟨_,h1,.inl rfl⟩
 | row e t xs =>
  obtain⟨_,cs,h1,_⟩:=h
  exact Qz4 h1 hg
 | tail e t xs =>
  obtain⟨_,ys,h1⟩:=h
  exact Qz4 h1 hg
 | map k v xs =>
  obtain⟨es,c,h1,_⟩:=h
  have hg:g=β id:=hg
  grind
 | mapC k v xs hole =>
  obtain⟨ys,⟨es,c,h1,_⟩,h2,_⟩:=h
  rcases hg with hg | ⟨v,hv,hg⟩
  ·grind
  grind [Qxa]
 | mapE k v xs key j =>
  obtain⟨es,c,h1,_⟩:=h
  have hg:g=β id:=hg
  grind
theorem Rel.notOwn(h:Rel X β ρ S a w){g:Nat}{o:Obj}(ho:w.heap[g]?=some o)(hc:o.isCells=false)(hm:∀es c,o≠.map es c):∀t∈Qj β ρ S.mem,¬ t.blks g:=fun t ht hg=>by
 obtain⟨q,hq,rfl⟩:=QZ.1 ht
 obtain⟨o',h1,h2⟩:=Jjm (h.own _ ht).1 hg
 rw[ho]at h1
 grind
theorem Jfk{g o:Nat}{ob:Obj}(h:w.heap[g]?=some ob)(hc:ob.isCells=false):w.cell? ⟨g,o,none⟩=none:=by
 grind [World.cell?,Obj.isCells]
theorem Rel.turn(h:Rel X β ρ S a w){g:Nat}{o o':Obj}(hB:X.w.heap.size≤g)(ho:w.heap[g]?=some o)(hc:o.isCells=false)(hm:∀es c,o≠.map es c)(hc':o'.isCells=false):Rel X β ρ S a (w.putObj g o'):=by
  have hn:=h.notOwn ho hc hm
  have hsame:∀b,b≠g→(w.putObj g o').heap[b]?=w.heap[b]?:=fun b hb=>World.putObj_heap_other hb
  have hlt:=(Array.getElem?_eq_some_iff.1 ho).1
  have hevo:Evo (Je X.ok X.w.heap.size (fun _=>0) [] (Qj β ρ S.mem) w) w (w.putObj g o') :=
    ⟨by simp,fun b f _=>by
      grind [Jfk,World.putObj_heap_same,World.cell?_of_block],fun b es c _ hb=>by
      have hne:b≠g:=fun e=>by grind
      rw[hsame b hne]; exact hb⟩
  have hok:∀b f,Je X.ok X.w.heap.size (fun _=>0) [] (Qj β ρ S.mem) w b f→Je X.ok X.w.heap.size (fun _=>0) [] (Qj β ρ S.mem) (w.putObj g o') b f:=fun b f ⟨h1,h2,h3,h4⟩=>⟨h1,by simpa using h2,h3,h4⟩
  exact { sz:=h.sz,df:=h.df,fr:=h.fr,pn:=h.pn,tm:=h.tm,bel:=h.bel.trans ⟨rfl,rfl,rfl,by simp,fun k hk _=>hsame k (by omega)⟩,dat:=(h.dat.evo hevo).weak hok,obj:=by simp,
          own:=fun t ht=>⟨t.weak (t.keep (h.own t ht).1 (fun b hb=>hsame b fun e=>hn t ht (e▸hb)) hevo) hok,(h.own t ht).2⟩,dHH:=by simp,dHO:=by simp,dOO:=h.dOO }
theorem Rel.withD(h:Rel X β ρ S a w)(ds:List Deferred):Rel { X with dfs:=ds } β ρ S { a with defers:=ds } w :=
 { sz:=h.sz,df:=rfl,fr:=h.fr,pn:=h.pn,tm:=h.tm,bel:=h.bel,dat:=h.dat,obj:=h.obj,own:=h.own,dHH:=h.dHH,dHO:=h.dHO,dOO:=h.dOO }
end
def Mc(ds:List Nat)(a a':Act):Prop:=∀t,t∉ds→a'.tmps[t]?=a.tmps[t]?
theorem Mc.put{ds:List Nat}{a0 a:Act}(h:Mc ds a0 a){o:Option Nat}(ho:∀d,o=some d→d∈ds)(v:Value):Mc ds a0 (a.put o v):=fun t ht=>by
 cases o with
 | none=>exact h t ht
 | some d=>rw[Vs (fun e=>ht (by grind))]; exact h t ht
abbrev Qi4(ro:Option Nat):Fence:={ Fence.wide with round:=ro }
def QL(ds:List Nat)(a0:Act)(Z:Act→World→Prop)(Q:Exit→Act→World→Prop):Exit→Act→World→Prop
 | .normal,a',w'=>Mc ds a0 a'→Z a' w'
 | e,a',w'=>Q e a' w'
def QS(ds:List Nat)(a0:Act)(Q:Exit→Act→World→Prop):Exit→Act→World→Prop:=QL ds a0 (Q .normal) Q
def Qcz:List Oper→Bool
 | []=>true
 | o::l=>(match o.op with
  | .defer _=>false
  | _=>true)&&Qcz l
def Wh:List Oper→List Nat
 | []=>[]
 | o::l=>match o.dst with
  | some d=>d::Wh l
  | none=>Wh l
theorem Qz5{P:Program}{row:String}{args:Array Value}{w:World}{R:Value→World→Prop}(ro:Option Nat)(m:Nat)(h:Rows P row args w R):RowsIn (Qi4 ro) m P row args w R :=
 fun c cs _=>let⟨v,w',r,s⟩:=h c cs; ⟨v,w',r,(stepsIn_wide.2 s:StepsIn (Machine.fenced P Fence.wide) P _ _)⟩
theorem Qvg{P:Program}{f:FuncId}{args:Array Value}{w:World}{R:Ending→World→Prop}(ro:Option Nat)(m:Nat)(h:Calls P f args w R):CallsIn (Qi4 ro) m P f args w R:=(callsIn_wide.2 h:CallsIn Fence.wide m P f args w R)
theorem Qnv{P:Program}{ops:Array Oper}{Q:Exit→Act→World→Prop}{ro:Option Nat}{m:Nat}{ds:List Nat}{a0:Act}{Z:Act→World→Prop}{tl:List Oper}(hQ:¬ LetsOut Q)(hZ:∀a w,Z a w→wpListIn (Qi4 ro) m P ops Q tl a w):∀(os:List Oper),Qcz os=true→(∀d∈Wh os,d∈ds)→∀(a:Act) (w:World),Mc ds a0 a→wpList P ops (QL ds a0 Z Q) os a w→wpListIn (Qi4 ro) m P ops Q (os++tl) a w
 | [],_,_,a,w,hs,h=>hZ a w (h hs)
 | o::os,hn,hd,a,w,hs,h=>by
  simp only[Qcz,QQ]at hn
  have hod:∀d,o.dst=some d→d∈ds:=fun d e=>hd d (by simp[Wh,e])
  have hd2:∀d∈Wh os,d∈ds:=fun d hm=>hd d (by grind [Wh])
  have ih:∀(a:Act) (w:World),Mc ds a0 a→wpList P ops (QL ds a0 Z Q) os a w→wpListIn (Qi4 ro) m P ops Q (os++tl) a w:=fun a w=>Qnv hQ hZ os hn.2 hd2 a w
  unfold wpList at h
  rw[QA]
  unfold wpListIn
  split at h
  ·rename_i hw
   rw[if_pos hw]
   refine⟨fun _ _=>trivial,?_⟩
   have hnd:∀c,o.op≠.defer c:=fun c hc=>by
    have:=hn.1
    rw[hc]at this; cases this
   have hsem:Oper.semAt (Qi4 ro).round a.eval o=execOp a.eval o:=by
    cases ro with
    | none=>exact Oper.semAt_none _ _
    | some l=>grind [Oper.semAt_some]
   rw[hsem]
   rcases h with h | ⟨_,h⟩
   ·unfold Oper.wp at h
    cases hr:(execOp a.eval o).run P w with
    | ok nx w' =>
     rw[hr]at h
     cases nx with
     | value v=>exact ih _ _ (hs.put hod v) h
     | skip=>exact ih _ _ (hs.put hod undef) h
     | defer d=>exact ih _ _ (Mc.put (a:={ a with defers:=d::a.defers }) hs hod undef) h
     | enter f args =>
      refine⟨fun hd=>(by have h0:(Qi4 ro).depth.isSome=false:=rfl; rw[h0]at hd; cases hd),?_⟩
      refine Qvg ro _ (Calls.mono h fun e w' he=>?_)
      cases e with
      | returned v=>exact ih _ _ (hs.put hod v) he
      | panicked c=>exact he
      | outgrown=>exact he
     | row rw' args =>
      exact⟨fun hd=>(by have h0:(Qi4 ro).depth.isSome=false:=rfl; rw[h0]at hd; cases hd),Qz5 ro _ (Rows.mono h fun v w' hv=>ih _ _ (hs.put hod v) hv)⟩
     | _=>exact h.elim
    | halt hl w' =>
     rw[hr]at h
     cases hl with
     | panic v=>exact h
     | _=>exact h.elim
   ·exact absurd (show LetsOut Q from h) hQ
  ·rename_i hw
   rw[if_neg hw]
   exact⟨fun _ _=>trivial,ih _ _ (hs.put hod undef) h⟩
theorem Qxb{P:Program}{ops:Array Oper}{Q:Exit→Act→World→Prop}{ro:Option Nat}{m:Nat}{ds:List Nat}{a0:Act}(hQ:¬ LetsOut Q)(os:List Oper)(hn:Qcz os=true)(hd:∀d∈Wh os,d∈ds)(a:Act)(w:World)(hs:Mc ds a0 a)(h:wpList P ops (QS ds a0 Q) os a w):wpListIn (Qi4 ro) m P ops Q os a w:=by
 have:=Qnv (ro:=ro) (m:=m) (Z:=Q .normal) (tl:=[]) hQ (fun a w hz=>hz) os hn hd a w hs h
 rwa[QH]at this
def rb:An→Code→Bool
 | .nil,.skip=>true
 | .reg _,.region _ ⟨ops⟩ false=>Qcz ops
 | .two a b,.seq x y=>rb a x&&rb b y
 | .two a b,.cond _ x y=>rb a x&&rb b y
 | .un a,.block _ c=>rb a c
 | .gh _ a,c=>rb a c
 | _,_=>false
def Kl:Code→List Nat
 | .region _ ⟨ops⟩ _=>Wh ops
 | .seq x y=>Kl x++Kl y
 | .cond _ x y=>Kl x++Kl y
 | .block _ c=>Kl c
 | _=>[]
section
variable {P:Program} {Y:TX} {X:Cx} {n N:Nat} {K:List Con}
theorem Sn(hT:Q0 P Y.T)(hmix:P.follows .mixedOrders=true)(hK:KsX P Y X K)(hX:X.n=n)(hr:X.res=[])(hpin:X.pin=none){ro:Option Nat}{m:Nat}{ds:List Nat}{a0:Act}:∀{R:Type} {r:R} (an:An) {c:Code} {S:XS} {β:Nat→Nat} {ρ:Nat→Value} {a:Act} {w:World} {k:Ex→XS→Option R} {Q:Exit→Act→World→Prop},
  rb an c=true→¬ LetsOut Q→(∀d∈Kl c,d∈ds)→Mc ds a0 a→Rel X β ρ S.flat a w→Up Y K n N an c S k=some r →
  (∀(e:Ex) (β':Nat→Nat) (ρ':Nat→Value) (S':XS) (a':Act) (w':World),k e S'=some r→Vh S S' β β' ρ ρ'→Rel X β' ρ' S'.flat a' w'→Mc ds a0 a'→Q e.exit a' w')→c.wpIn (Qi4 ro) m P Q a w
 | R,r,.nil,c,S,β,ρ,a,w,k,Q,hb,hQ,hd,ha,h,hs,H=>by
  cases c<;>first | (cases hb; done) | skip
  simp only[Up]at hs
  exact wpIn_skip (H .n β ρ S a w hs (Vh.refl _ _ _) h ha)
 | R,r,.reg hn,c,S,β,ρ,a,w,k,Q,hb,hQ,hd,ha,h,hs,H=>by
  cases c with
  | region id ops draw =>
   obtain⟨ops⟩:=ops
   cases draw with
   | true=>cases hb
   | false =>
    simp only[Up]at hs
    refine wpIn_region_list ?_
    have:=Vq hT hK hX hr (Q:=QS ds a0 Q) hn (l:=ops) (rest:=[]) h hs fun β' ρ' S' a' w' h1 h2 h3=>fun hsame=>H .n β' ρ' S' a' w' h1 h2 h3 hsame
    rw[QH]at this
    exact Qxb hQ ops hb hd a w ha this
  | _=>cases hb
 | R,r,.two x y,c,S,β,ρ,a,w,k,Q,hb,hQ,hd,ha,h,hs,H=>by
  cases c<;>first | (cases hb; done) | skip
  ·rename_i c1 c2
   simp only[Up]at hs
   simp only[rb,QQ]at hb
   refine wpIn_seq (Sn hT hmix hK hX hr hpin x hb.1 hQ (fun d hm=>hd d (List.mem_append_left _ hm)) ha h hs fun e β' ρ' S' a' w' h1 h2 h3 h4=>?_)
   cases e with
   | n=>exact Sn hT hmix hK hX hr hpin y hb.2 hQ (fun d hm=>hd d (List.mem_append_right _ hm)) h4 h3 h1 fun e β2 ρ2 S2 a2 w2 q1 q2 q3 q4=>H e β2 ρ2 S2 a2 w2 q1 (h2.trans q2) q3 q4
   | x i=>exact H (.x i) β' ρ' S' a' w' h1 h2 h3 h4
   | r=>exact H .r β' ρ' S' a' w' h1 h2 h3 h4
  ·rename_i co c1 c2
   simp only[Up]at hs
   simp only[rb,QQ]at hb
   split at hs
   ·rename_i v hv
    obtain⟨cs,h1,h2⟩:=h.ev (Qf a) hv
    have h2':cs=_:=h2
    subst h2'
    have h1':a.eval co=.bool v:=h1
    refine wpIn_cond h1' ?_
    cases v with
    | true =>
     rw[if_pos rfl]at hs ⊢
     exact Sn hT hmix hK hX hr hpin x hb.1 hQ (fun d hm=>hd d (List.mem_append_left _ hm)) ha h hs H
    | false =>
     rw[if_neg (by simp)]at hs ⊢
     exact Sn hT hmix hK hX hr hpin y hb.2 hQ (fun d hm=>hd d (List.mem_append_right _ hm)) ha h hs H
   ·cases hs
 | R,r,.un x,c,S,β,ρ,a,w,k,Q,hb,hQ,hd,ha,h,hs,H=>by
  cases c<;>first | (cases hb; done) | skip
  rename_i id c1
  simp only[Up]at hs
  have hQ2:¬ LetsOut (Exit.inBlock id Q):=hQ
  refine wpIn_block (Sn hT hmix hK hX hr hpin x hb hQ2 hd ha h hs fun e β' ρ' S' a' w' h1 h2 h3 h4=>?_)
  cases e with
  | n=>exact H .n β' ρ' S' a' w' h1 h2 h3 h4
  | x i =>
   simp only at h1
   show if i=id then Q .normal a' w' else Q (.exit i) a' w'
   cases hb:Nat.beq i id with
   | true =>
    rw[hb]at h1
    rw[if_pos (Nat.eq_of_beq_eq_true hb)]
    exact H .n β' ρ' S' a' w' h1 h2 h3 h4
   | false =>
    rw[hb]at h1
    rw[if_neg (fun e=>by rw[e,Nat.beq_refl]at hb; cases hb)]
    exact H (.x i) β' ρ' S' a' w' h1 h2 h3 h4
  | r=>exact H .r β' ρ' S' a' w' h1 h2 h3 h4
 | R,r,.gh g x,c,S,β,ρ,a,w,k,Q,hb,hQ,hd,ha,h,hs,H=>by
  simp only[Up]at hs
  obtain⟨S1,β1,ρ1,q1,q2,q3⟩:=Qcw g h hs
  have hb':rb x c=true:=by cases c<;>exact hb
  exact Sn hT hmix hK hX hr hpin x hb' hQ hd ha q3 q1 fun e β2 ρ2 S2 a2 w2 p1 p2 p3 p4=>H e β2 ρ2 S2 a2 w2 p1 (q2.trans p2) p3 p4
 | R,r,.dr _ _ _,c,S,β,ρ,a,w,k,Q,hb,hQ,hd,ha,h,hs,H=>by cases c<;>cases hb
 | R,r,.dc _ _ _ _ _,c,S,β,ρ,a,w,k,Q,hb,hQ,hd,ha,h,hs,H=>by cases c<;>cases hb
 | R,r,.cn _ _ _,c,S,β,ρ,a,w,k,Q,hb,hQ,hd,ha,h,hs,H=>by cases c<;>cases hb
 | R,r,.ch _ _ _ _,c,S,β,ρ,a,w,k,Q,hb,hQ,hd,ha,h,hs,H=>by cases c<;>cases hb
 | R,r,.lp _ _ _ _ _,c,S,β,ρ,a,w,k,Q,hb,hQ,hd,ha,h,hs,H=>by cases c<;>cases hb
 | R,r,.jn _ _ _ _,c,S,β,ρ,a,w,k,Q,hb,hQ,hd,ha,h,hs,H=>by cases c<;>cases hb
end
end Gx
