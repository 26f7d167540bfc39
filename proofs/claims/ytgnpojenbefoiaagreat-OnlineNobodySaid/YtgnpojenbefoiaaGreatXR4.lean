/- Behind an open region. -/
import Derived.Test.YtgnpojenbefoiaaGreatXR
import Derived.Test.YtgnpojenbefoiaaGreatXO
import Derived.StillTail
import Derived.Test.YtgnpojenbefoiaaGreatXNt
namespace Gx
open Go Go.RowKit Gd
set_option linter.unusedVariables false
set_option linter.unusedSimpArgs false
section
variable {P:Program} {Y:TX} {Zs:List (Nat×Ob)} {n:Nat} {l0:List Oper} {ds:List Nat} {S0:XS} {R:Type} {r:R}
section
variable {X:Cx} {β:Nat→Nat} {ρ:Nat→Value} {a0:Act} {w0:World} {acc:Got}
theorem Qgk {t1 t2 t3:TL} (h:U0 t1 t2) (k:U0 t2 t3):U0 t1 t3 :=
 ⟨fun g=>(k.1 g).trans (h.1 g),fun b o=>(k.2.1 b o).trans (h.2.1 b o),fun ok w hp=>k.2.2 ok w (h.2.2 ok w hp)⟩
theorem D1:∀{l1 l2 l3:List TL},V2 l1 l2→V2 l2 l3→V2 l1 l3
 | _,_,_,.nil,.nil=>.nil
 | _,_,_,.cons h r,.cons k q=>.cons (Qgk h k) (D1 r q)
def Qo (ds:List Nat):Ob→Prop
 | .row _ _ _=>True
 | .tail _ _ _=>True
 | .var _ c=>Wr ds c=true
 | _=>False
theorem Qdc {E:Nat→Bool} {id:Nat} {ob:Ob}:∀{l:Got} {j:Nat} {c:Option Ob},Uy E id l j c=some ob→c=some ob∨∃(k:Nat) (g:Nat×AV×Gk),l[k]?=some g∧J4 id g.1 g.2.2=true∧∃c',H0 id g.1 g.2.2 c'=some ob
 | [],j,c,h=>.inl h
 | (d,v,q)::l,j,c,h=>by
  simp only [Uy] at h
  rcases Qdc h with h1 | ⟨k,g,h1,h2,h3⟩
  ·cases ht:J4 id d q with
   | false =>
    rw [Qba ht] at h1
    refine .inl ?_
    cases hE:E j<;>rw [hE] at h1<;>exact h1
   | true =>
    cases hE:E j with
    | false=>rw [hE] at h1; exact .inl h1
    | true=>rw [hE] at h1; exact .inr ⟨0,(d,v,q),rfl,ht,c,h1⟩
  ·exact .inr ⟨k+1,g,by simpa using h1,h2,h3⟩
theorem Q4i (hA:Tq P Y Zs n l0 ds S0 acc) {id:Nat} {ob:Ob} {E:Nat→Bool} (h:Uy E id acc 0 (Qb Zs id)=some ob):Qb Zs id=some ob∨Qo ds ob:=by
 rcases Qdc h with h | ⟨k,g,h1,h2,c',h3⟩
 ·exact .inl h
 ·obtain ⟨o,_,hG⟩:=hA.2 k g h1
  obtain ⟨d,v,q⟩:=g
  have hf:=hG.fnd
  refine .inr ?_
  cases q with
  | v=>cases h2
  | u=>cases h2
  | c=>cases h2
  | b ns=>cases h2
  | r u e zs c =>
   have h2':Nat.beq d id=true:=h2
   simp only [H0,h2',cond_true,Option.some.injEq] at h3
   subst h3; trivial
  | o t c =>
   have h2':Nat.beq d id=true:=h2
   simp only [H0,h2',cond_true,Option.some.injEq] at h3
   subst h3
   obtain ⟨_,_,_,_,_,hids⟩:=hf.2.2
   exact Dv hids
  | t u e zs h0 =>
   simp only [H0] at h3
   cases hb:Nat.beq d id with
   | true =>
    simp only [hb,cond_true,Option.some.injEq] at h3
    subst h3; trivial
   | false =>
    have h2':(Nat.beq d id||Nat.beq h0 id)=true:=h2
    rw [hb] at h2'
    simp only [Bool.false_or] at h2'
    simp only [hb,cond_false,h2',cond_true] at h3
    cases h3
  | w j b0 =>
   have h2':Nat.beq j id=true:=h2
   simp only [H0,h2',cond_true,Option.some.injEq] at h3
   subst h3
   obtain ⟨_,_,_,_,_,_,_,_,_,_,_,hc⟩:=hf
   rcases hc with ⟨_,_,_,_,_,_,hno,rfl,_⟩ | ⟨_,_,_,_,_,_,_,_,_,_,_,_,_,_,_,_,_,rfl⟩
   ·exact hno
   ·trivial
theorem Mv {β':Nat→Nat} {ρ':Nat→Value} {f:Nat→Option Ob} {g:Nat→Ob→TL}:∀{l:List Nat},(∀id∈l,∀ob,f id=some ob→U0 (g id ob) (Qp β' ρ' id ob))→V2 (l.filterMap fun id=>(f id).map (g id)) (Qc β' ρ' (l.filterMap fun id=>match f id with
  | some ob=>some (id,ob)
  | none=>none))
 | [],_=>.nil
 | id::l,h=>by
  have ih:=Mv (l:=l) fun id' hm=>h id' (.tail _ hm)
  simp only [List.filterMap_cons]
  cases hf:f id with
  | none=>simpa using ih
  | some ob=>exact .cons (h id (.head _) ob hf) ih
theorem Qp9 {d id:Nat} {ob:Ob}:∀{M:List (Nat×Ob)},Qv d M=true→Qb M id=some ob→Qv d [(id,ob)]=true
 | [],_,h=>by simp [Qb] at h
 | (k,x)::l,hf,h=>by
  simp only [Qb] at h
  have hs:Qv d [(k,x)]=true∧Qv d l=true:=by
   cases x with
   | mapT kk v path e u xs hole =>
    cases hole<;>simp only [Qv,Bool.and_eq_true] at hf ⊢<;>simp only [hf,and_self]
   | mapO k9 xs9 hole =>
    cases hole<;>simp only [Qv,Mj,Bool.and_true,Bool.and_eq_true] at hf ⊢<;>simp only [hf,and_self]
   | _=>simp only [Qv,Bool.and_eq_true] at hf ⊢; simp only [hf,and_self]
  cases hb:Nat.beq k id with
  | true =>
   rw [hb] at h
   simp only [cond_true,Option.some.injEq] at h
   subst h
   rw [←Nat.eq_of_beq_eq_true hb]; exact hs.1
  | false=>rw [hb] at h; exact Qp9 hs.2 h
theorem Qud (hA:Tq P Y Zs n l0 ds S0 acc) (hdsE:ds=acc.map (·.1)) (hZf:∀d∈Jm acc,d∉Ym Zs∧Qv d Zs=true) {a:Act}:V2 (OWx β ρ Zs acc Us a) (Qc (B6 a (Jm acc) β) (Pt a (Jm acc) ρ) (Qtu Zs acc)):=by
 refine Mv (f:=fun id=>Uy Us id acc 0 (Qb Zs id)) fun id hid ob hob=>?_
 unfold tlX
 have hrd:∀d∈Jm acc,d∈ds:=fun d hd=>by
  obtain ⟨v,q,hm,_⟩:=Uk.1 hd
  rw [hdsE]; exact List.mem_map.2 ⟨_,hm,rfl⟩
 cases hm:J9 (Jm acc) id with
 | true =>
  have hm':=Ke hm
  have hq:Qo ds ob:=by
   rcases Q4i hA hob with h | h
   ·rw [(Ey (hZf id hm').2).1] at h; cases h
   ·exact h
  have hB:=Eu (a:=a) (β:=β) (ρ:=ρ) hm'
  simp only [cond_true]
  cases ob with
  | row e t xs=>simp only [Sc,Qp,hB.2]; exact U0.refl _
  | tail e t xs=>simp only [Sc,Qp,hB.2]; exact U0.refl _
  | var t c =>
   simp only [Sc,Qp,hB.1]
   refine ⟨fun _=>Iff.rfl,fun _ _=>Iff.rfl,fun ok w ⟨cs,h1,h2⟩=>⟨cs,h1,?_⟩⟩
   have hn:∀d∈ds,V1 d c=true:=List.all_eq_true.1 hq
   exact Gi (C:=fun β' ρ'=>cr β' ρ' ok w false c cs) h2 fun d hd β1 ρ1 h1=>Zl (Kj d β1 ρ1 _ _) (hn d (hrd d hd)) h1
  | map k v xs=>exact hq.elim
  | mapT k v path e u xs hole=>exact hq.elim
  | mapO k9 xs9 hole=>exact hq.elim
  | mapE k9 v9 xs9 key j=>exact hq.elim
 | false =>
  simp only [cond_false]
  have hnr:id∉Jm acc:=fun h=>by rw [W9 h] at hm; cases hm
  have hfr:∀d∈Jm acc,Qv d [(id,ob)]=true:=fun d hd=>by
   rcases Q4i hA hob with h | h
   ·exact Qp9 (hZf d hd).2 h
   ·have hne:(!Nat.beq id d)=true:=by
     rw [Pw fun (e:id=d)=>hnr (by rw [e]; exact hd)]; rfl
    cases ob with
    | row e t xs=>simp only [Qv,hne,Bool.and_self]
    | tail e t xs=>simp only [Qv,hne,Bool.and_self]
    | var t c =>
     have hn:∀d∈ds,V1 d c=true:=List.all_eq_true.1 h
     simp only [Qv,hne,hn d (hrd d hd),Bool.and_self]
    | map k v xs=>exact h.elim
    | mapT k v path e u xs hole=>exact h.elim
    | mapO k9 xs9 hole=>exact h.elim
    | mapE k9 v9 xs9 key j=>exact h.elim
  have:=Gi (a:=a) (l:=Jm acc) (β:=β) (ρ:=ρ) (C:=fun β' ρ'=>V2 (Qc β ρ [(id,ob)]) (Qc β' ρ' [(id,ob)])) (V2.refl _) fun d hd β1 ρ1 h1=>D1 h1 (W7 (Kj d β1 ρ1 _ _) (hfr d hd))
  simp only [Qc,List.map_cons,List.map_nil] at this
  cases this with
  | cons h _=>exact h
theorem Ap:∀{M:List (Nat×Ob)},(Ym M).Nodup→∀q∈M,Qb M q.1=some q.2
 | [],_,q,h=>by cases h
 | (k,x)::l,hn,q,h=>by
  have hn':=List.nodup_cons.1 (show (k::Ym l).Nodup from hn)
  simp only [Qb]
  rcases List.mem_cons.1 h with rfl | h
  ·simp [Nat.beq_refl]
  ·have hne:k≠q.1:=fun e=>hn'.1 (e▸List.mem_map.2 ⟨q,h,rfl⟩)
   rw [Pw hne]
   exact Ap hn'.2 q h
theorem Que (hZn:(Ym Zs).Nodup) (hZf:∀d∈Jm acc,d∉Ym Zs) {a:Act}:OWx β ρ Zs acc (fun _=>false) a=Qc β ρ Zs:=by
 unfold OWx B7
 have h0:∀id c,Uy (fun _=>false) id acc 0 c=c:=fun id c=>Hi fun _ _ _ _=>rfl
 rw [List.filterMap_append]
 have e2:(Jm acc).filterMap (fX β ρ Zs acc (fun _=>false) a)=[]:=by
  rw [List.filterMap_eq_nil_iff]
  intro d hd
  simp only [fX,h0]
  cases hl:Qb Zs d with
  | none=>rfl
  | some ob=>exact absurd (Kx (by rw [hl]; rfl)) (hZf d hd)
 rw [e2,List.append_nil]
 unfold Ym Qc
 rw [List.filterMap_map,←List.filterMap_eq_map]
 refine Yb fun q hq=>?_
 simp only [Function.comp,fX,h0,Ap hZn q hq,Option.map_some,tlX]
 cases hm:J9 (Jm acc) q.1 with
 | false=>rfl
 | true=>exact absurd (List.mem_map.2 ⟨q,hq,rfl⟩) (hZf _ (Ke hm))
theorem Px:∀acc:Got,(Jm acc).Sublist (acc.map (·.1))
 | []=>List.Sublist.refl _
 | (d,v,q)::l=>by
  have:=Px l
  cases q<;>simp only [Jm,List.map_cons]<;>first | exact this.cons_cons _ | exact this.cons _
theorem Lw:∀{ds:List Nat} {env:List En} {e:En},e∈Da env ds→e∈env∧∀d∈ds,V1 d e.av=true∧e.t≠d∧∀c∈e.cs,c.1≠d
 | [],env,e,h=>⟨h,by simp⟩
 | d::ds,env,e,h=>by
  obtain ⟨h1,h2⟩:=Lw (ds:=ds) h
  obtain ⟨h3,h4,h5⟩:=X9 h1
  obtain ⟨h6,h7⟩:=Dt h3
  refine ⟨h6,fun d' hd=>?_⟩
  rcases List.mem_cons.1 hd with rfl | hd
  ·exact ⟨h7,h4,h5⟩
  ·exact h2 d' hd
theorem Py:∀{acc:Got} {e:En},e∈Qk0 acc→∃q,(e.t,e.av,q)∈acc∧e.cs=[]∧isW q=false
 | [],e,h=>by cases h
 | (d,v,q)::l,e,h=>by
  by_cases hw:isW q=true
  ·cases q<;>simp [isW] at hw
   obtain ⟨q',h1,h2,h3⟩:=Py (acc:=l) h
   exact ⟨q',.tail _ h1,h2,h3⟩
  ·have h':e∈⟨d,[],v⟩::Qk0 l:=by cases q<;>first | exact h | exact absurd rfl hw
   rcases List.mem_cons.1 h' with rfl | h'
   ·exact ⟨q,.head _,rfl,by simpa using hw⟩
   ·obtain ⟨q',h1,h2,h3⟩:=Py h'
    exact ⟨q',.tail _ h1,h2,h3⟩
theorem Sb.re0 {G:GL} {D:List DF} {O:List TL} {a':Act} {w':World} {β1 β2:Nat→Nat} {f:Nat→Nat} (h:Sb β1 {X with pin:=some f} G D [] O a' w') (hp:X.pin=none) (hG:∀q∈G,den β1 q.2=den β2 q.2):Sb β2 X G D [] O a' w':=by
  have hok:∀b o,Q5 X.ok X.w.heap.size β1 [] O w' b o→Q5 X.ok X.w.heap.size β2 [] O w' b o:=fun b o ⟨h1,h2,_,h4⟩=>⟨h1,h2,by simp,h4⟩
  exact { sz:=h.sz,df:=h.df,fr:=h.fr,pn:=fun g hg=>(by rw [hp] at hg; cases hg),tm:=fun q hq=>(h.tm q hq).trans (congrArg some (hG q hq)),bel:=h.bel,dat:=h.dat.weak hok,obj:=by simp,
          own:=fun t ht=>⟨t.weak (h.own t ht).1 hok,(h.own t ht).2⟩,dHH:=by simp,dHO:=by simp,dOO:=h.dOO }
theorem Qgl (hT:Qy P Y.T) {K:List Con} (hK:∀c∈K,Qi P Y.gl c∧Runs P c.f) (hG0:Vf Y.gl (okN X) X.w) {hn:Hn} (hmix:P.follows .mixedOrders=true) (hX:X.n=n) (hr:X.res=[]) (hp:X.pin=none) (hn9:Nat.ble n 1000000000=true) (hZb:Wp (Ym Zs)=true) (hC:Rel X β ρ ⟨S0.flat.env,Zs++S0.flat.mem⟩ a0 w0) {p:Nat} (hb:O4 l0 p ds=true)
  {k:Hn→Got→Option R} (hs:Fu Y n l0 ds Zs S0 K hn (l0.take p) 0 [] k=some r) {id:Nat} {Q:Exit→Act→World→Prop}
  (H:∀(β':Nat→Nat) (ρ':Nat→Value) (a':Act) (w':World) (acc:Got) (h':Hn),k h' acc=some r→Vo S0 (R9 S0 ds Zs acc) β β' ρ ρ'→Rel X β' ρ' (R9 S0 ds Zs acc).flat a' w'→wpList P ⟨l0⟩ Q (l0.drop p) a' w') :
  (Code.region id ⟨l0⟩ true).wp P Q a0 w0:=by
 have eM:Qc β ρ (Zs++S0.flat.mem)=Qc β ρ Zs++Qc β ρ S0.flat.mem:=List.map_append
 have h:Rel X β ρ S0.flat a0 w0:=Sb.subO hC (by rw [show Qc β ρ (⟨S0.flat.env,Zs++S0.flat.mem⟩:St).mem=_ from eM]; exact List.sublist_append_right _ _)
 have hZn:=Hh hZb
 have hn9':=Nat.le_of_ble_eq_true hn9
 unfold O4 at hb
 simp only [Bool.and_eq_true] at hb
 obtain ⟨⟨⟨⟨hple,hlen⟩,hback⟩,hfin⟩,hndB⟩:=hb
 have hnd:=Cj hndB
 have hpl:=Nat.le_of_ble_eq_true hple
 have hdl:=Nat.eq_of_beq_eq_true hlen
 obtain ⟨acc,⟨h',hk⟩,htr⟩:=Iz (P:=P) hT hK hs
 obtain ⟨hal,hall⟩:=htr.get
 simp only [List.nil_append] at hk
 have halen:acc.length=ds.length:=by rw [hal,List.length_take,hdl]; omega
 have hA:Tq P Y Zs n l0 ds S0 acc:=by
  refine ⟨halen,fun i g hg=>?_⟩
  have hi:i<acc.length:=by
   rcases Nat.lt_or_ge i acc.length with q | q
   ·exact q
   ·rw [List.getElem?_eq_none q] at hg; cases hg
  have hip:i<p:=by omega
  have ho:l0[i]?=some l0[i]:=List.getElem?_eq_getElem (by omega)
  obtain ⟨g',q1,q2⟩:=hall i l0[i] (by rw [List.getElem?_take,if_pos hip]; exact ho)
  rw [hg] at q1; injection q1 with q1; subst q1
  refine ⟨l0[i],ho,?_⟩
  simpa using q2
 have hmemG:∀g∈acc,∃o i,acc[i]?=some g∧Ps P Y Zs n l0 ds S0 o i (acc.take i) g:=fun g hg=>by
  obtain ⟨i,hi⟩:=List.getElem?_of_mem hg
  obtain ⟨o,_,hG⟩:=hA.2 i g hi
  exact ⟨o,i,hi,hG⟩
 have hdsE:ds=acc.map (·.1):=by
  refine List.ext_getElem? fun i=>?_
  rcases Nat.lt_or_ge i acc.length with hi | hi
  ·rw [List.getElem?_map,List.getElem?_eq_getElem hi]
   obtain ⟨o,_,hG⟩:=hA.2 i acc[i] (List.getElem?_eq_getElem hi)
   exact C0 (by omega) hG.ix
  ·rw [List.getElem?_eq_none (by omega),List.getElem?_eq_none (by simpa using hi)]
 have hgds:∀g∈acc,g.1∈ds:=fun g hg=>by rw [hdsE]; exact List.mem_map.2 ⟨g,hg,rfl⟩
 have hdsg:∀d∈ds,d<X.n→okD X d=true∧G2 d S0.fix=true:=fun d hd hlt=>by
  rw [hdsE] at hd
  obtain ⟨g,hg,rfl⟩:=List.mem_map.1 hd
  obtain ⟨o,i,_,hG⟩:=hmemG g hg
  cases hq:isW g.2.2 with
  | false=>exact J7 (hG.wr hq) hX hr
  | true =>
   have:=(hG.ndst hq).2
   omega
 have hrow3:∀d∈Jm acc,d∈ds∧okB S0 d=true∧Qv d Zs=true∧d<X.n:=fun d hd=>by
  obtain ⟨v,q,hm,hq⟩:=Uk.1 hd
  obtain ⟨o,i,_,hG⟩:=hmemG _ hm
  refine ⟨hgds _ hm,?_⟩
  cases q with
  | r u e zs c=>exact ⟨(Wv hG.fnd.2.1).1,(Wv hG.fnd.2.1).2.1,Kl (J7 (hG.wr rfl) hX hr).1⟩
  | t u e zs c=>exact ⟨(Wv hG.fnd.2.1).1,(Wv hG.fnd.2.1).2.1,Kl (J7 (hG.wr rfl) hX hr).1⟩
  | o t c=>exact ⟨(Wv hG.fnd.2.1).1,(Wv hG.fnd.2.1).2.1,Kl (J7 (hG.wr rfl) hX hr).1⟩
  | _=>cases hq
 have hrow:∀d∈Jm acc,d∈ds∧okB S0 d=true:=fun d hd=>⟨(hrow3 d hd).1,(hrow3 d hd).2.1⟩
 have hZf:∀d∈Jm acc,d∉Ym Zs∧Qv d Zs=true:=fun d hd=>⟨(Ey (hrow3 d hd).2.2.1).2,(hrow3 d hd).2.2.1⟩
 have hN:(B7 Zs acc).Nodup:=by
  unfold B7
  rw [List.nodup_append]
  refine ⟨hZn,(hdsE▸hnd:(acc.map (·.1)).Nodup).sublist (Px acc),fun x hx y hy e=>?_⟩
  subst e
  exact (hZf _ hy).1 hx
 have hSb:Sb (fun _=>0) X (Mu X ds a0) (S0.flat.env.map (enD β ρ a0)) [] (Qc β ρ Zs++Qc β ρ S0.flat.mem) a0 w0:=by
  rw [←eM]
  exact hC.toG.lessG fun q hq=>(List.mem_filter.1 hq).1
 refine Pq (OWx β ρ Zs acc) (β:=fun _=>0) (G:=Mu X ds a0) (D:=S0.flat.env.map (enD β ρ a0)) (H:=[]) (O:=Qc β ρ S0.flat.mem) hSb (by rw [Que hZn fun d hd=>(hZf d hd).1])
  (by rw [hr]; rfl) hmix p (fun E E' a hE=>Yb fun id _=>by
   unfold fX
   rw [H7 (E:=E) (E':=E') fun k g hk _=>by rw [Nat.zero_add]; exact hE k (by have:=Lv hk; omega)]) ds (acc.map (Qlo β ρ)) hlen (by rw [List.length_map,halen]; exact hlen) hple hback hfin hndB (Qp4 hA hnd)
  (Qda fun i _=>Qp8 hT hG0 hX hr h hnd hA hdsE hN (fun d hd=>(hZf d hd).1) i) fun β1 a' w' Ox hS' hOx hf0=>?_
 have hS:=hS'.perm (hOx.append_right _)
 have hf:∀(i:Nat) fv,(acc.map (Qlo β ρ))[i]?=some fv→fv.p (Q5 X.ok X.w.heap.size β1 [] (OWx β ρ Zs acc Us a'++Qc β ρ S0.flat.mem) w') w' a':=fun i fv hi =>
  fv.weak (hf0 i fv hi) fun b o ⟨q1,q2,q3,q4⟩=>⟨q1,q2,q3,fun u hu=>q4 u ((hOx.append_right _).mem_iff.2 hu)⟩
 have hat:∀d∈Jm acc,B9 a' acc ρ d=a'.tmps.getD d undef:=fun d hd=>(Eu (β:=β) hd).2
 have hatB:∀d∈Jm acc,Dy a' acc β d=Qc9 (a'.tmps.getD d undef):=fun d hd=>(Eu (ρ:=ρ) hd).1
 have hsim:V2 (Qc β ρ S0.flat.mem) (Qc (Dy a' acc β) (B9 a' acc ρ) S0.flat.mem) :=
  Gi (C:=fun β' ρ'=>V2 (Qc β ρ S0.flat.mem) (Qc β' ρ' S0.flat.mem)) (V2.refl _) fun d hd β1 ρ1 h1=>D1 h1 (W7 (Kj d β1 ρ1 _ _) (Zv (hrow d hd).2).1)
 have hcr:∀{ok:Ok} {w:World} {x:AV} {cs:List Value},(∀d∈Jm acc,V1 d x=true)→cr β ρ ok w false x cs→cr (Dy a' acc β) (B9 a' acc ρ) ok w false x cs:=fun {ok w x cs} hn hc =>
  Gi (C:=fun β' ρ'=>cr β' ρ' ok w false x cs) hc fun d hd β1 ρ1 h1=>Zl (Kj d β1 ρ1 _ _) (hn d hd) h1
 have hag:agP S0.prot β (Dy a' acc β) ρ (B9 a' acc ρ) :=
  Gi (C:=fun β' ρ'=>agP S0.prot β β' ρ ρ') (agP.refl _ _ _) fun d hd β1 ρ1 h1=>h1.trans (Zm (Zv (hrow d hd).2).2.2 (Kj d β1 ρ1 _ _))
 refine H (Dy a' acc β) (B9 a' acc ρ) a' w' acc h' hk ⟨rfl,rfl,rfl,hag⟩ ?_
 have hS0:=Sb.re0 (β2:=fun _=>0) hS hp fun q hq=>by rw [(Lu hq).2.2]; rfl
 have hown:V2 (OWx β ρ Zs acc Us a') (Qc (Dy a' acc β) (B9 a' acc ρ) (Qtu Zs acc)):=Qud hA hdsE hZf
 have hO:V2 (OWx β ρ Zs acc Us a'++Qc β ρ S0.flat.mem) (Qc (Dy a' acc β) (B9 a' acc ρ) (R9 S0 ds Zs acc).flat.mem):=by
  have e:Qc (Dy a' acc β) (B9 a' acc ρ) (R9 S0 ds Zs acc).flat.mem=Qc (Dy a' acc β) (B9 a' acc ρ) (Qtu Zs acc)++Qc (Dy a' acc β) (B9 a' acc ρ) S0.flat.mem:=by simp [Qc,R9,XS.flat]
  rw [e]
  exact hown.append hsim
 have hS1:=hS0.simO hO
 have hok:∀b o,Q5 X.ok X.w.heap.size β1 [] (OWx β ρ Zs acc Us a'++Qc β ρ S0.flat.mem) w' b o→okR X (Dy a' acc β) (B9 a' acc ρ) (R9 S0 ds Zs acc).flat.mem w' b o:=fun b o ⟨h1,h2,_,h4⟩=>hO.ok b o ⟨h1,h2,by simp,h4⟩
 have hoth:∀t,(t<X.n→t∉ds)→a'.tmps[t]?=a0.tmps[t]?:=fun t ht=>by
  rcases Nat.lt_or_ge t X.n with hlt | hge
  ·have ht:=ht hlt
   have:=hS0.tm _ (Tp hlt ht a0)
   simp only [Vs] at this
   rw [this]
   have hlt':t<a0.tmps.size:=by rw [h.sz]; exact hlt
   simp [Array.getD_eq_getD_getElem?,Array.getElem?_eq_getElem hlt']
  ·rw [Array.getElem?_eq_none (by rw [hS0.sz]; exact hge),Array.getElem?_eq_none (by rw [h.sz]; exact hge)]
 have hothR:∀t,(t<X.n→t∉ds)→rd a' t=rd a0 t:=fun t ht=>by unfold rd; rw [hoth t ht]
 have hold:∀e∈S0.flat.env,(∀d∈Jm acc,V1 d e.av=true)→(∀d∈ds,d<X.n→e.t≠d∧∀c∈e.cs,c.1≠d)→(enD (Dy a' acc β) (B9 a' acc ρ) a' e).p (okR X (Dy a' acc β) (B9 a' acc ρ) (R9 S0 ds Zs acc).flat.mem w') w':=by
  intro e he h1 h2
  have hD:=Jf.1 hS0.dat _ (List.mem_map.2 ⟨e,he,rfl⟩)
  have het:e.t<X.n→e.t∉ds:=fun hlt hm=>(h2 _ hm hlt).1 rfl
  have hcs:∀c∈e.cs,c.1<X.n→c.1∉ds:=fun c hc hlt hm=>(h2 _ hm hlt).2 c hc rfl
  have hcc:Jw a' e.cs↔Jw a0 e.cs:=⟨fun hc c hm=>by rw [←hoth _ (hcs c hm)]; exact hc c hm,fun hc c hm=>by rw [hoth _ (hcs c hm)]; exact hc c hm⟩
  refine ⟨fun hc=>?_,?_⟩
  ·obtain ⟨cs,q1,q2⟩:=hD.1 (hcc.1 hc)
   refine ⟨cs,by rw [hothR _ het]; exact q1,Vt (hcr h1 q2) ?_⟩
   exact fun b o hbo=>hO.ok b o hbo
  ·rw [hcc,hothR _ het]; exact hD.2
 have hfin:Rel X (Dy a' acc β) (B9 a' acc ρ) ⟨(R9 S0 ds Zs acc).flat.env,(R9 S0 ds Zs acc).flat.mem⟩ a' w':=Rel.ofSb hS1 rfl fun e he=>by
  have he':e∈(Qk0 acc++Da S0.env ds)++S0.fix:=he
  rcases List.mem_append.1 he' with he' | he'
  ·rcases List.mem_append.1 he' with he' | he'
   ·obtain ⟨q,hm,hcs,hqw⟩:=Py he'
    obtain ⟨o,i,hi,hG⟩:=hmemG _ hm
    have hdi:ds[i]?=some e.t:=by rw [hdsE,List.getElem?_map,hi]; rfl
    have hF:=hf i (Qlo β ρ (e.t,e.av,q)) (by rw [List.getElem?_map,hi]; rfl)
    have hoke:=(J7 (hG.wr hqw) hX hr).1
    have hlt:e.t<a'.tmps.size:=by rw [hS0.sz]; exact Kl hoke
    have hge:rd a' e.t=some (a'.tmps.getD e.t undef):=by rw [Xh (Xw hoke)]; simp [Array.getD_eq_getD_getElem?,hlt]
    refine ⟨fun _=>?_,.inl (by rw [hcs]; exact Qa a')⟩
    cases q with
    | v =>
     obtain ⟨cs,q1,q2⟩:=hF
     have hn:=hG.fnd.2
     unfold Wr at hn
     rw [List.all_eq_true] at hn
     exact ⟨cs,by rw [←q1]; exact hge,Vt (hcr (fun d hd=>hn d (hrow d hd).1) q2) hok⟩
    | u =>
     have hav:e.av=.tp .nil:=hG.fnd
     have hF':a'.tmps.getD e.t undef=undef:=hF
     rw [hav]
     exact ⟨[.tuple #[]],by rw [hge,hF']; rfl,[],rfl,rfl⟩
    | o t c =>
     obtain ⟨b,q1⟩:=hF
     have hav:=hG.fnd.1
     have hid:e.t∈Jm acc:=Uk.2 ⟨_,_,hm,rfl⟩
     rw [hav]
     refine ⟨[.pointer (some ⟨Dy a' acc β e.t,0,none⟩)],?_,rfl⟩
     rw [hatB _ hid,hge,q1]; rfl
    | w j0 b0=>cases hqw
    | b ns =>
     obtain ⟨cs,q1,q2⟩:=hF
     obtain ⟨_,hns,hids⟩:=hG.fnd
     refine ⟨cs,by rw [←q1]; exact hge,Vt (Zu (fun i hi=>?_) q2) hok⟩
     by_cases hmn:i∈ns
     ·have hrw:i∈Jm acc:=by
       have:=(hns i hmn).1
       obtain ⟨v',u,e1,zs,c,hm'⟩:=Vw this
       exact Uk.2 ⟨_,_,List.mem_of_mem_take hm',rfl⟩
      rw [hatB i hrw,hat i hrw,(Eu (ρ:=ρ) hmn).1,(Eu (β:=β) hmn).2]
      exact ⟨rfl,rfl⟩
     ·have hnr:i∉Jm acc:=fun q=>hmn (hids i hi (hrow i q).1)
      have p1:=Pu (a:=a') (β:=β) (ρ:=ρ) hmn
      have p2:=Pu (a:=a') (β:=β) (ρ:=ρ) hnr
      exact ⟨p2.1.trans p1.1.symm,p2.2.trans p1.2.symm⟩
    | r u e1 zs c =>
     obtain ⟨b,c0,q1⟩:=hF
     have hav:=hG.fnd.1
     have hid:e.t∈Jm acc:=Uk.2 ⟨_,_,hm,rfl⟩
     rw [hav]
     refine ⟨[B9 a' acc ρ e.t],?_,⟨_,rfl,.inl rfl⟩,?_⟩
     ·rw [hat _ hid]; exact hge
     ·rw [hat _ hid]; exact ⟨_,_,_,q1⟩
    | t u e1 zs c =>
     obtain ⟨b,c0,q1⟩:=hF
     have hav:=hG.fnd.1
     have hid:e.t∈Jm acc:=Uk.2 ⟨_,_,hm,rfl⟩
     rw [hav]
     refine ⟨[B9 a' acc ρ e.t],?_,⟨_,rfl,.inl rfl⟩,?_⟩
     ·rw [hat _ hid]; exact hge
     ·rw [hat _ hid]; exact ⟨_,_,_,q1⟩
    | c =>
     obtain ⟨t,hav,c1,c2,c3⟩:=hG.fnd
     obtain ⟨v',u,e1,zs,c,hm'⟩:=Vw c1
     have hm':=List.mem_of_mem_take hm'
     obtain ⟨i',hi'⟩:=List.getElem?_of_mem hm'
     obtain ⟨b,c0,q1⟩:=hf i' (Qlo β ρ (t,v',Gk.r u e1 zs c)) (by rw [List.getElem?_map,hi']; rfl)
     have hid:t∈Jm acc:=Uk.2 ⟨_,_,hm',rfl⟩
     have hav':e.av=.s t:=hav
     rw [hav'] at hF ⊢
     have hF':a'.tmps.getD e.t undef=a'.tmps.getD t undef:=hF
     refine ⟨[B9 a' acc ρ t],?_,⟨_,rfl,.inl rfl⟩,?_⟩
     ·rw [hat _ hid,←hF']; exact hge
     ·rw [hat _ hid]; exact ⟨_,_,_,q1⟩
   ·obtain ⟨h1,h2⟩:=Lw he'
    exact hold e (List.mem_append_left _ h1) (fun d hd=>(h2 d (hrow d hd).1).1) fun d hd _=>(h2 d hd).2
  ·refine hold e (List.mem_append_right _ he') (fun d hd=>?_) fun d hd hlt=>Fx (hdsg d hd hlt).2 e he'
   exact H2 (Zv (hrow d hd).2).2.1 e he'
 exact hfin
end
end
end Gx

/- Regions, control, functions. -/
namespace Gx
open Go Go.RowKit Gd
set_option linter.unusedVariables false
set_option linter.unusedSimpArgs false
def Qgm (P:Program) (gl:List (Nat×Σ t:Ty,t.De)) (K:List Con):Prop:=∀c∈K,Qi P gl c∧Runs P c.f
def KsX (P:Program) (Y:TX) (X:Cx) (K:List Con):Prop:=Qgm P Y.gl K∧Vf Y.gl (okN X) X.w
theorem Qqa {M:List (Nat×Ob)} (x:AV):(E9 M x).isAgg=x.isAgg:=by
 cases x with
 | s id =>
  simp only [E9]
  split<;>rfl
 | _=>rfl
theorem Qdd {M:List (Nat×Ob)} (x:AV) (cs:List Value):(E9 M x).val cs=x.val cs:=by
 unfold AV.val
 rw [Qqa]
theorem I2 {M:List (Nat×Ob)}:∀{x:AV} {i:Nat},i∈Q2 (E9 M x)→i∈Q2 x
 | .s id,i,h=>by
  simp only [E9] at h
  split at h
  ·cases h
  ·exact h
 | .ag l,i,h=>I2 (x:=l) h
 | .cons x r,i,h=>by
  rcases List.mem_append.1 (show i∈Q2 (E9 M x)++Q2 (E9 M r) from h) with h | h
  ·exact List.mem_append_left _ (I2 h)
  ·exact List.mem_append_right _ (I2 h)
 | .d ..,i,h=>h
 | .p ..,i,h=>h
 | .e ..,i,h=>h
 | .m _,i,h=>h
 | .b _,i,h=>h
 | .w ..,i,h=>h
 | .a ..,i,h=>h
 | .z,i,h=>h
 | .ns,i,h=>h
 | .np,i,h=>h
 | .nm,i,h=>h
 | .nf,i,h=>h
 | .f ..,i,h=>h
 | .tp _,i,h=>h
 | .nil,i,h=>h
section
variable {β:Nat→Nat} {ρ:Nat→Value} {ok:Ok} {w:World}
theorem Aq {M:List (Nat×Ob)} (hM:∀id o,Qb M id=some o→(Qp β ρ id o).p ok w):∀{m:Bool} {x:AV} {cs:List Value},cr β ρ ok w m x cs→cr β ρ ok w m (E9 M x) cs
 | m,.s id,cs,h=>by
  simp only [E9]
  split
  ·rename_i e t xs ho
   have h1:=(hM _ _ ho).1
   have h':(∃v,cs=[v]∧zal v (ρ id))∧∃A n c,ρ id=.slice A n c:=by cases m<;>exact h
   obtain ⟨⟨v,rfl,hz⟩,_⟩:=h'
   have h2:(rt (.sl t)).rep ok w xs [v]:=⟨_,rfl,Uh.1 (Qal hz h1)⟩
   cases m<;>exact h2
  ·exact h
 | m,.ag l,cs,h=>by
  have h':cr β ρ ok w false l cs:=by cases m<;>exact h
  have:=Aq hM (m:=false) (x:=l) h'
  cases m<;>exact this
 | true,.cons x r,cs,⟨c1,vs,h1,h2,h3⟩=>⟨c1,vs,by rw [h1,Qdd],Aq hM h2,Aq hM h3⟩
 | false,.cons x r,cs,⟨c1,c2,h1,h2,h3⟩=>⟨c1,c2,h1,Aq hM h2,Aq hM h3⟩
 | m,.d ..,cs,h=>h
 | m,.p ..,cs,h=>h
 | m,.e ..,cs,h=>h
 | m,.m _,cs,h=>h
 | m,.b _,cs,h=>h
 | m,.w ..,cs,h=>h
 | m,.a ..,cs,h=>h
 | m,.z,cs,h=>h
 | m,.ns,cs,h=>h
 | m,.np,cs,h=>h
 | m,.nm,cs,h=>h
 | m,.nf,cs,h=>h
 | m,.f ..,cs,h=>h
 | m,.tp _,cs,h=>h
 | m,.nil,cs,h=>h
end
theorem Sb.replO {β0:Nat→Nat} {X:Cx} {G:GL} {D:List DF} {H:HL} {O1 O2:List TL} {t t':TL} {a:Act} {w:World} (h:Sb β0 X G D H (O1++t::O2) a w) (h1:∀g,t'.blks g↔t.blks g) (h2:∀b o,t'.cov b o↔t.cov b o)
  (hp:t'.p (Q5 X.ok X.w.heap.size β0 H (O1++t::O2) w) w):Sb β0 X G D H (O1++t'::O2) a w:=by
 have hmem:∀u∈O1++t'::O2,u=t'∨u∈O1++t::O2:=fun u hu=>by
  rcases List.mem_append.1 hu with hu | hu
  ·exact .inr (List.mem_append_left _ hu)
  ·rcases List.mem_cons.1 hu with hu | hu
   ·exact .inl hu
   ·exact .inr (List.mem_append_right _ (.tail _ hu))
 have ht:t∈O1++t::O2:=List.mem_append_right _ (.head _)
 have hok:∀b o,Q5 X.ok X.w.heap.size β0 H (O1++t::O2) w b o→Q5 X.ok X.w.heap.size β0 H (O1++t'::O2) w b o:=fun b o ⟨q1,q2,q3,q4⟩=>⟨q1,q2,q3,fun u hu hc=>by
  rcases hmem u hu with rfl | hu
  ·exact q4 t ht ((h2 b o).1 hc)
  ·exact q4 u hu hc⟩
 refine { sz:=h.sz,df:=h.df,fr:=h.fr,pn:=h.pn,tm:=h.tm,bel:=h.bel,dat:=h.dat.weak hok,obj:=h.obj,own:=fun u hu=>?_,dHH:=h.dHH,dHO:=fun p hp' u hu=>?_,dOO:=?_ }
 ·rcases hmem u hu with rfl | hu
  ·exact ⟨u.weak hp hok,fun g hg=>(h.own t ht).2 g ((h1 g).1 hg)⟩
  ·exact ⟨u.weak (h.own u hu).1 hok,(h.own u hu).2⟩
 ·rcases hmem u hu with rfl | hu
  ·exact fun hb=>h.dHO p hp' t ht ((h1 _).1 hb)
  ·exact h.dHO p hp' u hu
 ·have:=h.dOO
  rw [List.pairwise_append,List.pairwise_cons] at this ⊢
  refine ⟨this.1,⟨fun u hu g hg=>this.2.1.1 u hu g ((h1 g).1 hg),this.2.1.2⟩,fun x hx y hy g hg hg2=>?_⟩
  rcases List.mem_cons.1 hy with rfl | hy
  ·exact this.2.2 x hx t (.head _) g hg ((h1 g).1 hg2)
  ·exact this.2.2 x hx y (.tail _ hy) g hg hg2
theorem Q9u {X:Cx} {β:Nat→Nat} {ρ:Nat→Value} {a:Act} {w:World} {S:XS} (h:Rel X β ρ S.flat a w) {id:Nat} {tid:TypeId} {c:AV} (hm:Qb S.mem id=some (.var tid c)):Rel X β ρ (S.set id (.var tid (E9 S.flat.mem c))).flat a w:=by
 have hm':Qb S.flat.mem id=some (.var tid c):=Q0 hm
 obtain ⟨l1,l2,e1,e2,e3⟩:=Jl hm'
 have hE:(S.set id (.var tid (E9 S.flat.mem c))).flat=⟨S.flat.env,Ht S.flat.mem id (.var tid (E9 S.flat.mem c))⟩:=by
  simp only [XS.flat,XS.set]
  rw [Zf hm]
 rw [hE,e2]
 have hO:Qc β ρ S.flat.mem=Qc β ρ l1++Qp β ρ id (.var tid c)::Qc β ρ l2:=by rw [e1]; simp [Qc]
 have hmem:Qc β ρ (l1++(id,Ob.var tid (E9 S.flat.mem c))::l2)=Qc β ρ l1++Qp β ρ id (.var tid (E9 S.flat.mem c))::Qc β ρ l2:=by simp [Qc]
 have h0:Sb (fun _=>0) X [] (S.flat.env.map (enD β ρ a)) [] (Qc β ρ l1++Qp β ρ id (.var tid c)::Qc β ρ l2) a w:=by rw [←hO]; exact h
 obtain ⟨cs,q1,q2⟩:=(h.ob hm').1
 have hS:=Sb.replO h0 (t':=Qp β ρ id (.var tid (E9 S.flat.mem c))) (fun _=>Iff.rfl) (fun _ _=>Iff.rfl) (by
  rw [←hO]
  exact ⟨cs,q1,Aq h.mm q2⟩)
 exact Rel.ofSb hS hmem.symm fun e he=>by
  have:=Jf.1 hS.dat _ (List.mem_map.2 ⟨e,he,rfl⟩)
  rw [←hmem] at this
  exact this
section
variable {P:Program} {Y:TX} {X:Cx} {S:XS} {β β':Nat→Nat} {ρ ρ':Nat→Value} {a a':Act} {w w':World} {n N:Nat} {K:List Con}
variable {Q:Exit→Act→World→Prop} {R:Type} {r:R}
theorem I3 {env:List En}:∀{ts:List Nat},∀e∈Nb env ts,e∈env
 | [],e,he=>by simp [Nb] at he
 | t::ts,e,he=>by
  simp only [Nb] at he
  split at he
  ·rename_i x hx
   rcases List.mem_cons.1 he with rfl | he
   ·exact (V6 hx).1
   ·exact I3 e he
  ·exact I3 e he
theorem Rel.ent (h:Rel X β ρ S.flat a w) (ks ms:List Nat):Rel X β ρ (S.ent ks ms).flat a w:=by
 have h1:Rel X β ρ ⟨S.env++(Nb S.env ks++S.fix),S.flat.mem⟩ a w:=Rel.less (S:=S.flat) h fun e he=>by
  rcases List.mem_append.1 he with he | he
  ·exact List.mem_append_left _ he
  ·rcases List.mem_append.1 he with he | he
   ·exact List.mem_append_left _ (I3 e he)
   ·exact List.mem_append_right _ he
 refine h1.permM ?_
 simp only [XS.flat,XS.ent]
 have:=Ut ms S.mem
 rw [←List.append_assoc]
 exact ((List.perm_append_comm.trans this).append_right _).symm
theorem Cc (ks ms:List Nat) (S1:St):(S.out ks ms S1).flat=((S.ent ks ms).re S1).flat:=by simp [XS.flat,XS.out,XS.re,XS.ent]
theorem Gv {S0 S':XS} {Γ:Shp} (h:Rel X β ρ S'.flat a w) (hk:S'.fix=S0.fix∧S'.fixM=S0.fixM∧S'.prot=S0.prot) {x:Γ.De} (hd:S'.dec Γ=some x) :
  ∃β' ρ',agP S0.prot β β' ρ ρ'∧Rel X β' ρ' (S0.re (enc Γ x)).flat a w:=by
 obtain ⟨β',ρ',h1,h2⟩:=XS.dec_ok h hd
 rw [hk.2.2] at h1
 rw [hk.1,hk.2.1] at h2
 exact ⟨β',ρ',h1,h2⟩
theorem Pz (h:Rel X β ρ S.flat a w) {t:Nat} {x:AV} (he:Zo S.env t=some ⟨t,[],x⟩):Rel X β ρ (XS.put S t [] x).flat a w:=by
 obtain ⟨hm,_⟩:=V6 he
 refine Rel.less (S:=S.flat) h fun e hE=>?_
 rcases List.mem_append.1 hE with hE | hE
 ·rcases List.mem_cons.1 hE with rfl | hE
  ·exact List.mem_append_left _ hm
  ·exact List.mem_append_left _ (X9 hE).1
 ·exact List.mem_append_right _ hE
theorem Qi1 (h:Rel X β ρ S.flat a w) {t:Nat} {b:Bool} (he:Zo S.env t=some ⟨t,[],.d .bool b⟩):Rel X β ρ (XS.put S t [] (.d .bool b)).flat a w:=by
 obtain ⟨hm,_⟩:=V6 he
 refine Rel.less (S:=S.flat) h fun e hE=>?_
 rcases List.mem_append.1 hE with hE | hE
 ·rcases List.mem_cons.1 hE with rfl | hE
  ·exact List.mem_append_left _ hm
  ·exact List.mem_append_left _ (X9 hE).1
 ·exact List.mem_append_right _ hE
theorem Vg (hT:Qy P Y.T) (hK:KsX P Y X K) (hX:X.n=n) (hr:X.res=[]) {ops:List Oper} {Q:Exit→Act→World→Prop}:∀{R:Type} {r:R} (h:Hn) {l rest:List Oper} {S:XS} {β:Nat→Nat} {ρ:Nat→Value} {a:Act} {w:World} {k:XS→Option R},
  Rel X β ρ S.flat a w→Y7 Y K n ops h l S k=some r→KOk P ⟨ops⟩ Q rest X S β ρ k r→wpList P ⟨ops⟩ Q (l++rest) a w
 | R,r,.done,l,rest,S,β,ρ,a,w,k,hS,hs,H=>by
  cases l with
  | nil=>exact H β ρ S a w (by simpa [Y7] using hs) (Vo.refl _ _ _) hS
  | cons o l=>simp [Y7] at hs
 | R,r,.n m g,l,rest,S,β,ρ,a,w,k,hS,hs,H=>by
  simp only [Y7] at hs
  have:=Qa3 (P:=P) (X:=X) (Q:=Q) (r:=r) (Ir Y n ops) (fun h1 h2 h3=>Qpt hT hX hr h1 h2 h3) (l1:=l.take m) (rest:=l.drop m++rest) hS hs fun β' ρ' S' a' w' h1 h2 h3=>Vg hT hK hX hr g h3 h1 (H.after h2)
  rwa [←List.append_assoc,List.take_append_drop] at this
 | R,r,.nl m g,l,rest,S,β,ρ,a,w,k,hS,hs,H=>by
  simp only [Y7] at hs
  have:=Qa3 (P:=P) (X:=X) (Q:=Q) (r:=r) (Gx.stepL Y n ops) (fun h1 h2 h3=>Qbz hT hX hr h1 h2 h3) (l1:=l.take m) (rest:=l.drop m++rest) hS hs fun β' ρ' S' a' w' h1 h2 h3=>Vg hT hK hX hr g h3 h1 (H.after h2)
  rwa [←List.append_assoc,List.take_append_drop] at this
 | R,r,.call c g,l,rest,S,β,ρ,a,w,k,hS,hs,H=>by
  simp only [Y7] at hs
  split at hs
  ·rename_i con o l' hc
   split at hs
   ·rename_i hg
    have hcm:=hK.1 con (List.mem_of_getElem? hc)
    exact Mt hX hr hS (Ua (Wt hg) _) hcm.1 hK.2 hcm.2 hs fun β' ρ' S' a' w' h1 h2 h3=>Vg hT hK hX hr g h3 h1 (H.after h2)
   ·rename_i t want hg
    split at hs
    ·rename_i t' b he
     split at hs
     ·rename_i hb
      have hbw:b=want:=by simpa using hb
      subst hbw
      obtain ⟨cs,h1,h2⟩:=hS.get he (Qa a)
      have h2':cs=_:=h2
      subst h2'
      have hcm:=hK.1 con (List.mem_of_getElem? hc)
      exact Mt hX hr hS ((Vv hg).2 h1) hcm.1 hK.2 hcm.2 hs fun β' ρ' S' a' w' h1 h2 h3=>Vg hT hK hX hr g h3 h1 (H.after h2)
     ·cases hs
    ·cases hs
   ·cases hs
  ·cases hs
 | R,r,.br g,l,rest,S,β,ρ,a,w,k,hS,hs,H=>by
  simp only [Y7] at hs
  split at hs
  ·rename_i o l'
   split at hs
   ·rename_i hg
    exact Qcz hT hX hr hS (Ua (Wt hg) _) hs fun β' ρ' S' a' w' h1 h2 h3=>Vg hT hK hX hr g h3 h1 (H.after h2)
   ·rename_i t want hg
    split at hs
    ·rename_i t' b he
     split at hs
     ·rename_i hb
      have hbw:b=want:=by simpa using hb
      subst hbw
      obtain ⟨cs,h1,h2⟩:=hS.get he (Qa a)
      have h2':cs=_:=h2
      subst h2'
      exact Qcz hT hX hr hS ((Vv hg).2 h1) hs fun β' ρ' S' a' w' h1 h2 h3=>Vg hT hK hX hr g h3 h1 (H.after h2)
     ·cases hs
    ·cases hs
   ·cases hs
  ·cases hs
 | R,r,.fz id g,l,rest,S,β,ρ,a,w,k,hS,hs,H=>by
  simp only [Y7] at hs
  have h1:Rel X β ρ (XS.flat { S with mem:=Va [id] S.mem }) a w:=by
   have:=Rel.freeze S.mem (l0:=[]) (F:=S.fixM) (ks:=[id]) hS
   simp only [List.nil_append] at this
   exact this
  exact Vg hT hK hX hr g h1 hs (H.after ⟨rfl,rfl,rfl,agP.refl _ _ _⟩)
 | R,r,.keep ts g,l,rest,S,β,ρ,a,w,k,hS,hs,H=>by
  simp only [Y7] at hs
  have h1:Rel X β ρ (XS.flat { S with env:=Nb S.env ts }) a w:=Rel.less (S:=S.flat) hS fun e he=>by
   rcases List.mem_append.1 he with he | he
   ·exact List.mem_append_left _ (I3 e he)
   ·exact List.mem_append_right _ he
  exact Vg hT hK hX hr g h1 hs (H.after ⟨rfl,rfl,rfl,agP.refl _ _ _⟩)
 | R,r,.mt id path e g,l,rest,S,β,ρ,a,w,k,hS,hs,H=>by
  simp only [Y7] at hs
  split at hs
  ·rename_i kk v hm
   split at hs
   ·rename_i u f hf
    obtain ⟨hq,hs⟩:=bvT hs
    obtain ⟨ρ1,h1,h2⟩:=Q4c hS hm hf hq
    exact Vg hT hK hX hr g h2 hs (H.after h1)
   ·cases hs
  ·cases hs
 | R,r,.op src id d g,l,rest,S,β,ρ,a,w,k,hS,hs,H=>by
  simp only [Y7] at hs
  split at hs
  ·rename_i kk v path e u xs hm
   split at hs
   ·rename_i u1 f av hf hsrc
    split at hs
    ·rename_i key hkey
     obtain ⟨hb,hs⟩:=bvT hs
     simp only [Bool.and_eq_true] at hb
     have hu:u1=u:=by
      obtain ⟨f0,hf0,_⟩:=(hS.ob (Q0 (m:=S.fixM) hm)).1
      rw [hf] at hf0
      injection hf0 with hf0
      injection hf0
     subst hu
     obtain ⟨ρ1,h1,h2⟩:=Q4e hS hm hf hb.1.1 key hb.1.2 hb.2
     exact Vg hT hK hX hr g h2 hs (H.after h1)
    ·cases hs
   ·cases hs
  ·cases hs
 | R,r,.fm id g,l,rest,S,β,ρ,a,w,k,hS,hs,H=>by
  simp only [Y7] at hs
  split at hs
  ·rename_i kk v path e u xs hm
   exact Vg hT hK hX hr g (Q4d hS hm) hs (H.after ⟨rfl,rfl,rfl,agP.refl _ _ _⟩)
  ·cases hs
 | R,r,.md m g,l,rest,S,β,ρ,a,w,k,hS,hs,H=>by simp [Y7] at hs
 | R,r,.tl g,l,rest,S,β,ρ,a,w,k,hS,hs,H=>by simp [Y7] at hs
 | R,r,.dt _ g,l,rest,S,β,ρ,a,w,k,hS,hs,H=>by simp [Y7] at hs
 | R,r,.si t i x y,l,rest,S,β,ρ,a,w,k,hS,hs,H=>by
  simp only [Y7] at hs
  split at hs
  ·rename_i t' kd v he
   obtain ⟨hf,hs⟩:=bvT hs
   split at hs
   ·rename_i hv
    subst hv
    have ht:t'=t:=(V6 he).2
    subst ht
    exact Vg hT hK hX hr x (Pz hS he) hs (H.after ⟨rfl,rfl,rfl,agP.refl _ _ _⟩)
   ·exact Vg hT hK hX hr y hS hs H
  ·cases hs
 | R,r,.so t x y,l,rest,S,β,ρ,a,w,k,hS,hs,H=>by simp [Y7] at hs
 | R,r,.sp t m ks ms Γ x y g,l,rest,S,β,ρ,a,w,k,hS,hs,H=>by
  simp only [Y7] at hs
  split at hs
  ·rename_i t' v he
   have ht':t'=t:=(V6 he).2
   subst ht'
   obtain ⟨hb,hs⟩:=bvT hs
   obtain ⟨z,hz,hs⟩:=Yh hs
   have hp:=Qi1 hS he
   have fin:KOk P ⟨ops⟩ Q (l.drop m++rest) X ((XS.put S t' [] (.d .bool v)).ent ks ms) β ρ (fun S'=>S'.dec Γ) z:=by
    intro β1 ρ1 S' a' w' hd hk h1
    obtain ⟨β2,ρ2,h2,h3⟩:=Gv (S0:=(XS.put S t' [] (.d .bool v)).ent ks ms) h1 ⟨hk.fix,hk.fixM,hk.prot⟩ hd
    rw [←Cc] at h3
    refine Vg hT hK hX hr g h3 hs (H.after ⟨rfl,rfl,rfl,?_⟩)
    exact agP.trans hk.ag h2
   have e:l++rest=l.take m++(l.drop m++rest):=by rw [←List.append_assoc,List.take_append_drop]
   rw [e]
   cases v with
   | true =>
    rw [if_pos rfl] at hz
    exact Vg hT hK hX hr x (hp.ent ks ms) hz fin
   | false =>
    rw [if_neg (by simp)] at hz
    exact Vg hT hK hX hr y (hp.ent ks ms) hz fin
  ·cases hs
theorem Ar:∀{R:Type} {r:R} (h:Hn) {S:XS} {ρ:Nat→Value} {k:XS→Option R},Rel X β ρ S.flat a w→Fa h S k=some r→∃S' ρ',k S'=some r∧Vo S S' β β ρ ρ'∧Rel X β ρ' S'.flat a w
 | R,r,.done,S,ρ,k,hS,hs=>⟨S,ρ,hs,Vo.refl _ _ _,hS⟩
 | R,r,.fz id g,S,ρ,k,hS,hs=>by
  simp only [Fa] at hs
  have h1:Rel X β ρ (XS.flat { S with mem:=Va [id] S.mem }) a w:=by
   have:=Rel.freeze S.mem (l0:=[]) (F:=S.fixM) (ks:=[id]) hS
   simp only [List.nil_append] at this
   exact this
  obtain ⟨S',ρ',q1,q2,q3⟩:=Ar g h1 hs
  exact ⟨S',ρ',q1,⟨q2.fix,q2.fixM,q2.prot,q2.ag⟩,q3⟩
 | R,r,.mt id path e g,S,ρ,k,hS,hs=>by
  simp only [Fa] at hs
  split at hs
  ·rename_i kk v hm
   split at hs
   ·rename_i u f hf
    obtain ⟨hq,hs⟩:=bvT hs
    obtain ⟨ρ1,h1,h2⟩:=Q4c hS hm hf hq
    obtain ⟨S',ρ',q1,q2,q3⟩:=Ar g h2 hs
    exact ⟨S',ρ',q1,h1.trans q2,q3⟩
   ·cases hs
  ·cases hs
 | R,r,.op src id d g,S,ρ,k,hS,hs=>by
  simp only [Fa] at hs
  split at hs
  ·rename_i kk v path e u xs hm
   split at hs
   ·rename_i u1 f av hf hsrc
    split at hs
    ·rename_i key hkey
     obtain ⟨hb,hs⟩:=bvT hs
     simp only [Bool.and_eq_true] at hb
     have hu:u1=u:=by
      obtain ⟨f0,hf0,_⟩:=(hS.ob (Q0 (m:=S.fixM) hm)).1
      rw [hf] at hf0
      injection hf0 with hf0
      injection hf0
     subst hu
     obtain ⟨ρ1,h1,h2⟩:=Q4e hS hm hf hb.1.1 key hb.1.2 hb.2
     obtain ⟨S',ρ',q1,q2,q3⟩:=Ar g h2 hs
     exact ⟨S',ρ',q1,h1.trans q2,q3⟩
    ·cases hs
   ·cases hs
  ·cases hs
 | R,r,.fm id g,S,ρ,k,hS,hs=>by
  simp only [Fa] at hs
  split at hs
  ·rename_i kk v path e u xs hm
   obtain ⟨S',ρ',q1,q2,q3⟩:=Ar g (Q4d hS hm) hs
   exact ⟨S',ρ',q1,⟨q2.fix,q2.fixM,q2.prot,q2.ag⟩,q3⟩
  ·cases hs
 | R,r,.n _ _,S,ρ,k,hS,hs=>by simp [Fa] at hs
 | R,r,.nl _ _,S,ρ,k,hS,hs=>by simp [Fa] at hs
 | R,r,.md _ _,S,ρ,k,hS,hs=>by simp [Fa] at hs
 | R,r,.keep _ _,S,ρ,k,hS,hs=>by simp [Fa] at hs
 | R,r,.sp _ _ _ _ _ _ _ _,S,ρ,k,hS,hs=>by simp [Fa] at hs
 | R,r,.call _ _,S,ρ,k,hS,hs=>by simp [Fa] at hs
 | R,r,.tl _,S,ρ,k,hS,hs=>by simp [Fa] at hs
 | R,r,.dt id g,S,ρ,k,hS,hs=>by
  simp only [Fa] at hs
  split at hs
  ·rename_i tid c hm
   obtain ⟨S',ρ',q1,q2,q3⟩:=Ar g (Q9u hS hm) hs
   exact ⟨S',ρ',q1,⟨q2.fix,q2.fixM,q2.prot,q2.ag⟩,q3⟩
  ·cases hs
 | R,r,.so _ _ _,S,ρ,k,hS,hs=>by simp [Fa] at hs
 | R,r,.si _ _ _ _,S,ρ,k,hS,hs=>by simp [Fa] at hs
def TOk (P:Program) (ops:Array Oper) (Q:Act→Prop) (rest:List Oper) (X:Cx) (w:World) (S0:XS) (β:Nat→Nat) (ρ:Nat→Value) {R:Type} (k:XS→Option R) (r:R):Prop :=
 ∀(β':Nat→Nat) (ρ':Nat→Value) (S':XS) (a':Act),k S'=some r→Vo S0 S' β β' ρ ρ'→Rel X β' ρ' S'.flat a' w→wpStill P ops w Q rest a'
theorem TOk.after {ops:Array Oper} {Q:Act→Prop} {rest:List Oper} {k:XS→Option R} (h:TOk P ops Q rest X w S β ρ k r) {S1:XS} {β1:Nat→Nat} {ρ1:Nat→Value} (hk:Vo S S1 β β1 ρ ρ1):TOk P ops Q rest X w S1 β1 ρ1 k r :=
 fun β' ρ' S' a' h1 h2 h3=>h β' ρ' S' a' h1 (hk.trans h2) h3
section
variable {ops:List Oper} {Qs:Act→Prop} {rest:List Oper} {k:XS→Option R}
theorem Qde {o:Oper} (hw:Region.wanted o (yielded ⟨ops⟩ a.tmps)=true) {v:Value} (hr:(execOp a.eval o).run P w=.ok (.value v) w) (h:wpStill P ⟨ops⟩ w Qs rest (a.put o.dst v)):wpStill P ⟨ops⟩ w Qs (o::rest) a:=by
 unfold wpStill
 rw [if_pos hw]
 unfold Oper.still
 rw [hr,Oper.stillUpon_value]
 exact h
theorem P0 {o:Oper} (hw:Region.wanted o (yielded ⟨ops⟩ a.tmps)=false) (h:wpStill P ⟨ops⟩ w Qs rest (a.put o.dst undef)):wpStill P ⟨ops⟩ w Qs (o::rest) a:=by
 unfold wpStill
 rw [if_neg (by rw [hw]; simp)]
 exact h
theorem P1 (hT:Qy P Y.T) (hX:X.n=n) (hr:X.res=[]) (h:Rel X β ρ S.flat a w) {o:Oper} (hw:Region.wanted o (yielded ⟨ops⟩ a.tmps)=true) (hs:Qcl Y n o S k=some r) (H:TOk P ⟨ops⟩ Qs rest X w S β ρ k r):wpStill P ⟨ops⟩ w Qs (o::rest) a:=by
 unfold Qcl at hs
 split at hs
 ·rename_i d hd
  obtain ⟨hb,hs⟩:=bvT hs
  obtain ⟨av,hk,hsem⟩:=Bz (P:=P) hT rfl hs
  obtain ⟨h1,h2⟩:=J7 hb hX hr
  obtain ⟨cs,h3,h4⟩:=hsem h.toW (Qa a)
  refine Qde hw h3 ?_
  rw [hd]
  refine H β ρ _ _ hk (K4 S d [] av) ?_
  rw [Ze h2]
  exact h.put0 h1 h4
 ·cases hs
theorem Qdf (hX:X.n=n) (hr:X.res=[]) (h:Rel X β ρ S.flat a w) {o:Oper} (hw:Region.wanted o (yielded ⟨ops⟩ a.tmps)=false) (hs:B2 n o S k=some r) (H:TOk P ⟨ops⟩ Qs rest X w S β ρ k r):wpStill P ⟨ops⟩ w Qs (o::rest) a:=by
 refine P0 hw ?_
 unfold B2 at hs
 split at hs
 ·rename_i d hd
  obtain ⟨hb,hk⟩:=bvT hs
  obtain ⟨h1,h2⟩:=J7 hb hX hr
  rw [hd]
  refine H β ρ _ _ hk (K4 S d [] _) ?_
  rw [Ze h2]
  exact h.put0 h1 (x:=.tp .nil) (c:=[.tuple #[]]) ⟨[],rfl,rfl⟩
 ·rename_i hd
  rw [hd]
  exact H β ρ _ _ hs (Vo.refl _ _ _) h
theorem Qlq (hT:Qy P Y.T) (hX:X.n=n) (hr:X.res=[]) (h:Rel X β ρ S.flat a w) {o:Oper} {t:Nat} {want:Bool} (hg:C3 ops o=some (some (t,want))) (hs:Iq Y n t want o S k=some r) (H:TOk P ⟨ops⟩ Qs rest X w S β ρ k r) :
  wpStill P ⟨ops⟩ w Qs (o::rest) a:=by
 unfold Iq at hs
 split at hs
 ·rename_i t' cs b d he hd
  obtain ⟨hb,hs⟩:=bvT hs
  simp only [Bool.and_eq_true] at hb
  obtain ⟨h1,h2⟩:=J7 hb.1.1 hX hr
  have htd:=neB hb.1.2
  have hud:∀c∈cs,c.1≠d:=Bu (by simpa using hb.2)
  split at hs
  ·rename_i v hv
   obtain ⟨hm,ht'⟩:=V6 he
   simp only at ht'
   subst ht'
   have hkeep:∀u:Value,Jw (a.put (some d) u) ((t',want)::cs)↔Jw a ((t',want)::cs):=by
    intro u
    have hne:∀c∈(t',want)::cs,c.1≠d:=by
     intro c hc
     rcases List.mem_cons.1 hc with rfl | hc
     ·exact htd
     ·exact hud c hc
    exact ⟨fun hc c hm=>by rw [←Y2 (hne c hm) u]; exact hc c hm,fun hc c hm=>by rw [Y2 (hne c hm) u]; exact hc c hm⟩
   by_cases hw:Region.wanted o (yielded ⟨ops⟩ a.tmps)=true
   ·have htb:=(Vv hg).1 hw
    have hcs:Jw a cs:=by
     rcases (h.en hm).2 with h3 | h3
     ·exact h3
     ·simp only at h3; rw [Xh (Fp he),htb] at h3; simp [undef] at h3
    have hcur:Jw a ((t',want)::cs):=by
     intro c hc
     rcases List.mem_cons.1 hc with rfl | hc
     ·exact htb
     ·exact hcs c hc
    obtain ⟨c,h3,h4⟩:=Io hT h.toW hcur hv
    refine Qde hw h3 ?_
    rw [hd]
    refine H β ρ _ _ hs (K4 S d _ _) ?_
    rw [Ze h2]
    exact h.put h1 (fun _=>⟨c,rfl,h4⟩) (.inl ((hkeep _).2 hcur))
   ·have hw':Region.wanted o (yielded ⟨ops⟩ a.tmps)=false:=by simpa using hw
    refine P0 hw' ?_
    rw [hd]
    refine H β ρ _ _ hs (K4 S d _ _) ?_
    rw [Ze h2]
    refine h.put h1 (fun hc=>?_) (.inr rfl)
    have:=(hkeep _).1 hc
    exact absurd ((Vv hg).2 (this _ (.head _))) hw
  ·cases hs
 ·cases hs
theorem Qlr (hT:Qy P Y.T) (hX:X.n=n) (hr:X.res=[]) (h:Rel X β ρ S.flat a w) {o:Oper} (hs:Qas Y n ops o S k=some r) (H:TOk P ⟨ops⟩ Qs rest X w S β ρ k r):wpStill P ⟨ops⟩ w Qs (o::rest) a:=by
 unfold Qas at hs
 split at hs
 ·rename_i hg
  exact P1 hT hX hr h (Ua (Wt hg) _) hs H
 ·rename_i t want hg
  exact Qlq hT hX hr h hg hs H
 ·cases hs
theorem Qls (hT:Qy P Y.T) (hX:X.n=n) (hr:X.res=[]) (h:Rel X β ρ S.flat a w) {o:Oper} (hs:Qat Y n ops o S k=some r) (H:TOk P ⟨ops⟩ Qs rest X w S β ρ k r):wpStill P ⟨ops⟩ w Qs (o::rest) a:=by
 unfold Qat at hs
 split at hs
 ·rename_i hg
  exact P1 hT hX hr h (Ua (Wt hg) _) hs H
 ·rename_i t want hg
  split at hs
  ·rename_i t' b he
   obtain ⟨cs,h1,h2⟩:=h.get he (Qa a)
   have h2':cs=_:=h2
   subst h2'
   have h1':a.tmps[t]?=some (.bool b):=h1
   split at hs
   ·rename_i hb
    have:b=want:=by simpa using hb
    subst this
    exact P1 hT hX hr h ((Vv hg).2 h1') hs H
   ·rename_i hb
    refine Qdf hX hr h ?_ hs H
    have hne:b≠want:=by simpa using hb
    cases hw:Region.wanted o (yielded ⟨ops⟩ a.tmps) with
    | false=>rfl
    | true =>
     have:=(Vv hg).1 hw
     rw [h1'] at this
     injection this with this
     injection this with this
     exact absurd this hne
  ·rename_i t' he
   obtain ⟨cs,h1,vs,h2,h3⟩:=h.get he (Qa a)
   subst h2
   refine Qdf hX hr h ?_ hs H
   cases hw:Region.wanted o (yielded ⟨ops⟩ a.tmps) with
   | false=>rfl
   | true =>
    have:=(Vv hg).1 hw
    rw [h1] at this
    injection this with this
    cases this
  ·cases hs
 ·cases hs
theorem P2 (st:Oper→XS→(XS→Option R)→Option R)
  (hst:∀{o:Oper} {rest:List Oper} {S:XS} {β:Nat→Nat} {ρ:Nat→Value} {a:Act} {k:XS→Option R},Rel X β ρ S.flat a w→st o S k=some r→TOk P ⟨ops⟩ Qs rest X w S β ρ k r→wpStill P ⟨ops⟩ w Qs (o::rest) a) :
  ∀{l1 rest:List Oper} {S:XS} {β:Nat→Nat} {ρ:Nat→Value} {a:Act} {k:XS→Option R},Rel X β ρ S.flat a w→Nc st l1 S k=some r→TOk P ⟨ops⟩ Qs rest X w S β ρ k r→wpStill P ⟨ops⟩ w Qs (l1++rest) a
 | [],rest,S,β,ρ,a,k,h,hs,H=>H β ρ S a hs (Vo.refl _ _ _) h
 | o::l1,rest,S,β,ρ,a,k,h,hs,H=>by
  simp only [Nc] at hs
  refine hst (rest:=l1++rest) h hs fun β' ρ' S' a' hk hkeep h'=>?_
  exact P2 st hst h' hk (H.after hkeep)
end
theorem As (hT:Qy P Y.T) (hX:X.n=n) (hr:X.res=[]) {ops:List Oper} {Qs:Act→Prop}:∀{R:Type} {r:R} (h:Hn) {l rest:List Oper} {S:XS} {β:Nat→Nat} {ρ:Nat→Value} {a:Act} {k:XS→Option R},
  Rel X β ρ S.flat a w→Hz Y n ops h l S k=some r→TOk P ⟨ops⟩ Qs rest X w S β ρ k r→wpStill P ⟨ops⟩ w Qs (l++rest) a
 | R,r,.done,l,rest,S,β,ρ,a,k,hS,hs,H=>by
  cases l with
  | nil=>exact H β ρ S a (by simpa [Hz] using hs) (Vo.refl _ _ _) hS
  | cons o l=>simp [Hz] at hs
 | R,r,.n m g,l,rest,S,β,ρ,a,k,hS,hs,H=>by
  simp only [Hz] at hs
  have:=P2 (P:=P) (X:=X) (w:=w) (r:=r) (Qas Y n ops) (fun h1 h2 h3=>Qlr hT hX hr h1 h2 h3) (l1:=l.take m) (rest:=l.drop m++rest) hS hs fun β' ρ' S' a' h1 h2 h3=>As hT hX hr g h3 h1 (H.after h2)
  rwa [←List.append_assoc,List.take_append_drop] at this
 | R,r,.nl m g,l,rest,S,β,ρ,a,k,hS,hs,H=>by
  simp only [Hz] at hs
  have:=P2 (P:=P) (X:=X) (w:=w) (r:=r) (Qat Y n ops) (fun h1 h2 h3=>Qls hT hX hr h1 h2 h3) (l1:=l.take m) (rest:=l.drop m++rest) hS hs fun β' ρ' S' a' h1 h2 h3=>As hT hX hr g h3 h1 (H.after h2)
  rwa [←List.append_assoc,List.take_append_drop] at this
 | R,r,.call c g,l,rest,S,β,ρ,a,k,hS,hs,H=>by simp [Hz] at hs
 | R,r,.fz id g,l,rest,S,β,ρ,a,k,hS,hs,H=>by simp [Hz] at hs
 | R,r,.keep ts g,l,rest,S,β,ρ,a,k,hS,hs,H=>by simp [Hz] at hs
 | R,r,.md m g,l,rest,S,β,ρ,a,k,hS,hs,H=>by simp [Hz] at hs
 | R,r,.mt _ _ _ _,l,rest,S,β,ρ,a,k,hS,hs,H=>by simp [Hz] at hs
 | R,r,.op _ _ _ _,l,rest,S,β,ρ,a,k,hS,hs,H=>by simp [Hz] at hs
 | R,r,.fm _ _,l,rest,S,β,ρ,a,k,hS,hs,H=>by simp [Hz] at hs
 | R,r,.tl g,l,rest,S,β,ρ,a,k,hS,hs,H=>by simp [Hz] at hs
 | R,r,.dt _ g,l,rest,S,β,ρ,a,k,hS,hs,H=>by simp [Hz] at hs
 | R,r,.si _ _ _ _,l,rest,S,β,ρ,a,k,hS,hs,H=>by simp [Hz] at hs
 | R,r,.so t x y,l,rest,S,β,ρ,a,k,hS,hs,H=>by simp [Hz] at hs
 | R,r,.sp t m ks ms Γ x y g,l,rest,S,β,ρ,a,k,hS,hs,H=>by
  simp only [Hz] at hs
  split at hs
  ·rename_i t' v he
   have ht':t'=t:=(V6 he).2
   subst ht'
   obtain ⟨hb,hs⟩:=bvT hs
   obtain ⟨z,hz,hs⟩:=Yh hs
   have hp:=Qi1 hS he
   have fin:TOk P ⟨ops⟩ Qs (l.drop m++rest) X w ((XS.put S t' [] (.d .bool v)).ent ks ms) β ρ (fun S'=>S'.dec Γ) z:=by
    intro β1 ρ1 S' a' hd hk h1
    obtain ⟨β2,ρ2,h2,h3⟩:=Gv (S0:=(XS.put S t' [] (.d .bool v)).ent ks ms) h1 ⟨hk.fix,hk.fixM,hk.prot⟩ hd
    rw [←Cc] at h3
    refine As hT hX hr g h3 hs (H.after ⟨rfl,rfl,rfl,?_⟩)
    exact agP.trans hk.ag h2
   have e:l++rest=l.take m++(l.drop m++rest):=by rw [←List.append_assoc,List.take_append_drop]
   rw [e]
   cases v with
   | true =>
    rw [if_pos rfl] at hz
    exact As hT hX hr x (hp.ent ks ms) hz fin
   | false =>
    rw [if_neg (by simp)] at hz
    exact As hT hX hr y (hp.ent ks ms) hz fin
  ·cases hs
theorem Rel.drew (h:Rel X β ρ S.flat a w):Rel X β ρ S.flat a { w with drawn:=w.drawn+1 }:=Sb.below h ((Below.refl _ _).drew)
end
end Gx

/- A region whose order is drawn, by an invariant alone. -/
namespace Gx
open Go Go.RowKit Gd
set_option linter.unusedVariables false
set_option linter.unusedSimpArgs false
section
variable {P:Program} {a:Act} {w:World}
theorem Qgn (I:(Nat→Bool)→Act→World→Prop) {id:Nat} {l:List Oper} {Q:Exit→Act→World→Prop} (hm:P.follows .mixedOrders=true) (p:Nat) (hIE:∀(E E':Nat→Bool) (a:Act) (w:World),(∀i,i<p→E i=E' i)→I E a w→I E' a w)
  (hple:Nat.ble p l.length=true) (hback:Gd.backB l=true) (hfin:Qtv l p=true) (h0:I (fun _=>false) a w.drew)
  (hstep:∀(E:Nat→Bool) (i:Nat) (o:Oper) (a:Act) (w:World) (Q':Exit→Act→World→Prop),i<p→l[i]?=some o→Ac l (fun j=>E j=true)→E i=false→(∀e∈o.after.toList,Region.binds .any e=true→E e.on=true)→I E a w →
   (∀a' w',I (fun j=>j==i||E j) a' w'→Q' .normal a' w')→wpList P ⟨l⟩ Q' [o] a w)
  (hend:∀a' w',I (fun _=>true) a' w'→wpList P ⟨l⟩ Q (l.drop p) a' w') :
  (Code.region id ⟨l⟩ true).wp P Q a w:=by
 refine wp_region_any hm ?_
 have hpl:=Nat.le_of_ble_eq_true hple
 let E (listed:Array Bool):Nat→Prop:=fun i=>listed.getD i false=true
 let J1 (listed:Array Bool) (a:Act) (w:World):Prop:=(∀k,p≤k→¬ E listed k)∧I (fun i=>listed.getD i false) a w
 let J (listed:Array Bool) (a:Act) (w:World):Prop:=listed.size=l.length∧Ac l (E listed) ∧
  (J1 listed a w∨(∃k,p<k∧(∀i,i<l.length→(E listed i↔i<k))∧wpList P ⟨l⟩ Q (l.drop k) a w))
 have hset:∀(listed:Array Bool) (i j:Nat),listed.size=l.length→i<l.length→(E (listed.setIfInBounds i true) j↔(j=i∨E listed j)):=by
  intro listed i j hs hi
  simp only [E,Array.getD_eq_getD_getElem?,Array.getElem?_setIfInBounds,hs]
  by_cases hj:i=j
  ·subst hj; simp [hi]
  ·have hj':¬ j=i:=fun e=>hj e.symm
   simp [hj,hj']
 have hsetB:∀(listed:Array Bool) (i j:Nat),listed.size=l.length→i<l.length→(listed.setIfInBounds i true).getD j false=(j==i||listed.getD j false):=by
  intro listed i j hs hi
  have:=hset listed i j hs hi
  simp only [E] at this
  cases h1:(listed.setIfInBounds i true).getD j false with
  | true =>
   rcases this.1 h1 with rfl | h2
   ·simp
   ·simp [h2]
  | false =>
   cases h2:(j==i||listed.getD j false) with
   | false=>rfl
   | true =>
    simp only [Bool.or_eq_true,beq_iff_eq] at h2
    rw [this.2 h2] at h1; cases h1
 have hgo:∀listed a w,J1 listed a w→(∀j,j<p→E listed j)→wpList P ⟨l⟩ Q (l.drop p) a w:=by
  rintro listed a w ⟨hno,hI⟩ hall
  exact hend a w (hIE _ _ a w (fun i hi=>hall i hi) hI)
 have hdone:∀listed a w,J listed a w→(∀i,i<l.length→E listed i)→Q .normal a w:=by
  rintro listed a w ⟨hs,hc,h1 | ⟨k,hk,hE,hw⟩⟩ hall
  ·have hpm:p=l.length:=by
    rcases Nat.lt_or_ge p l.length with hlt | hge
    ·exact absurd (hall p hlt) (h1.1 p (Nat.le_refl _))
    ·omega
   have:=hgo listed a w h1 fun i hi=>hall i (by omega)
   rw [hpm,List.drop_length] at this
   exact this
  ·have hkl:l.length≤k:=by
    rcases Nat.lt_or_ge k l.length with hlt | hge
    ·have:=(hE k hlt).1 (hall k hlt); omega
    ·exact hge
   rw [List.drop_eq_nil_of_le hkl] at hw
   exact hw
 have step1:∀(listed:Array Bool) (a:Act) (w:World) (i:Nat) (o:Oper) (Q':Exit→Act→World→Prop),listed.size=l.length→Ac l (E listed)→J1 listed a w→i<p→l[i]?=some o→¬ E listed i →
   (∀e∈o.after.toList,Region.binds .any e=true→listed.getD e.on false=true)→(∀a' w',J1 (listed.setIfInBounds i true) a' w'→Q' .normal a' w')→wpList P ⟨l⟩ Q' [o] a w:=by
  rintro listed a w i o Q' hs hc ⟨hno,hI⟩ hip ho hniE hpre hK
  have hil:i<l.length:=by omega
  have hnotE:listed.getD i false=false:=by
   cases h1:listed.getD i false with
   | false=>rfl
   | true=>exact absurd h1 hniE
  refine hstep (fun i=>listed.getD i false) i o a w Q' hip ho hc hnotE hpre hI fun a' w' hI'=>hK a' w' ⟨fun k hk hEk=>?_,hIE _ _ a' w' (fun j _=>(hsetB listed i j hs hil).symm) hI'⟩
  rw [hset listed i k hs hil] at hEk
  rcases hEk with rfl | hEk
  ·omega
  ·exact hno k hk hEk
 have main:∀(fuel:Nat) (listed:Array Bool) (a:Act) (w:World),J listed a w→((List.range l.length).filter fun i=>!listed.getD i false).length≤fuel→wpAny P .any ⟨l⟩ Q fuel listed a w:=by
  intro fuel
  induction fuel with
  | zero =>
   intro listed a w hJ hle
   have hall:∀i,i<l.length→E listed i:=by
    intro i hi
    cases hl:listed.getD i false with
    | true=>exact hl
    | false =>
     have:i∈(List.range l.length).filter fun i=>!listed.getD i false:=List.mem_filter.2 ⟨List.mem_range.2 hi,by rw [hl]; rfl⟩
     have hnil:=List.eq_nil_of_length_eq_zero (Nat.le_zero.1 hle)
     rw [hnil] at this; simp at this
   refine ⟨?_,hdone listed a w hJ hall⟩
   apply List.eq_nil_iff_forall_not_mem.2
   intro i hi
   rw [Fo] at hi
   have h1:=hall i hi.1
   have h2:=hi.2.1
   simp only [E] at h1
   have h3:listed.getD i true=listed.getD i false:=by simp [Array.getD,hJ.1,hi.1]
   rw [h3,h1] at h2; cases h2
  | succ fuel ih =>
   intro listed a w hJ hle
   refine ⟨fun hr=>hdone listed a w hJ (N8 hJ.1 hback hr),fun i hi=>?_⟩
   rw [Fo] at hi
   obtain ⟨hil,hnl,o,ho,hpre⟩:=hi
   obtain ⟨hs,hc,hcase⟩:=hJ
   have hniE:¬ E listed i:=by
    intro hE
    have h3:listed.getD i true=listed.getD i false:=by simp [Array.getD,hs,hil]
    rw [h3] at hnl; simp only [E] at hE; rw [hE] at hnl; cases hnl
   have hcl:Ac l (E (listed.setIfInBounds i true)):=by
    intro j oj hj hoj e he hb
    rw [hset listed i _ hs hil] at hj ⊢
    rcases hj with rfl | hj
    ·rw [ho] at hoj; injection hoj with hoj; subst hoj
     exact .inr (hpre e he hb)
    ·exact .inr (hc j oj hj hoj e he hb)
   have hcnt:((List.range l.length).filter fun j=>!(listed.setIfInBounds i true).getD j false).length≤fuel:=by
    have hlt:((List.range l.length).filter fun j=>!(listed.setIfInBounds i true).getD j false).length<((List.range l.length).filter fun j=>!listed.getD j false).length:=by
     apply Pq.filter_lt (x:=i)
     ·intro j hj
      have:=hset listed i j hs hil
      simp only [E] at this
      cases h1:listed.getD j false with
      | false=>rfl
      | true=>rw [this.2 (.inr h1)] at hj; cases hj
     ·exact List.mem_range.2 hil
     ·have:=(hset listed i i hs hil).2 (.inl rfl)
      simp only [E] at this; rw [this]; rfl
     ·cases h1:listed.getD i false with
      | true=>exact absurd h1 hniE
      | false=>rfl
    omega
   rcases hcase with hJ1 | ⟨k,hk,hE,hw⟩
   ·rcases Nat.lt_or_ge i p with hip | hip
    ·
     exact Ic ho (step1 listed a w i o (Exit.then (wpAny P .any ⟨l⟩ Q fuel (listed.setIfInBounds i true)) Q) hs hc hJ1 hip ho hniE hpre fun a' w' hJ1=>ih _ a' w' ⟨by simp [hs],hcl,.inl hJ1⟩ hcnt)
    ·
     have hall:∀j,j<i→E listed j:=fun j hj=>K0 hc l.length i j (Nr hfin hip hil hj) fun o' ho'=>by rw [ho] at ho'; injection ho' with ho'; subst ho'; exact hpre
     have hip':i=p:=by
      rcases Nat.lt_or_ge p i with hlt | hge
      ·exact absurd (hall p hlt) (hJ1.1 p (Nat.le_refl _))
      ·omega
     subst hip'
     have hw:=hgo listed a w hJ1 hall
     refine wpOp_mono (fun a w hw'=>ih _ a w ⟨by simp [hs],hcl,.inr ⟨i+1,by omega,fun j hj=>?_,hw'⟩⟩ hcnt) (G4 ho hw)
     rw [hset listed i j hs hil]
     constructor
     ·rintro (rfl | hEj)
      ·omega
      ·rcases Nat.lt_or_ge j i with h1 | h1
       ·omega
       ·exact absurd hEj (hJ1.1 j h1)
     ·intro hlt
      rcases Nat.lt_or_ge j i with h1 | h1
      ·exact .inr (hall j h1)
      ·exact .inl (by omega)
   ·
    have hall:∀j,j<i→E listed j:=by
     intro j hj
     have hpi:p<i:=by
      rcases Nat.lt_or_ge i k with h1 | h1
      ·exact absurd ((hE i hil).2 h1) hniE
      ·omega
     exact K0 hc l.length i j (Nr hfin (by omega) hil hj) fun o' ho'=>by rw [ho] at ho'; injection ho' with ho'; subst ho'; exact hpre
    have hik:i=k:=by
     rcases Nat.lt_or_ge i k with h1 | h1
     ·exact absurd ((hE i hil).2 h1) hniE
     ·rcases Nat.lt_or_ge k i with h2 | h2
      ·have:=(hE k (by omega)).1 (hall k h2); omega
      ·omega
    subst hik
    refine wpOp_mono (fun a w hw'=>ih _ a w ⟨by simp [hs],hcl,.inr ⟨i+1,by omega,fun j hj=>?_,hw'⟩⟩ hcnt) (G4 ho hw)
    rw [hset listed i j hs hil,hE j hj]
    constructor
    ·rintro (rfl | h1)<;>omega
    ·intro h1
     rcases Nat.lt_or_ge j i with h2 | h2
     ·exact .inr h2
     ·exact .inl (by omega)
 refine main _ _ a _ ⟨by simp,fun i o hE=>?_,.inl ⟨fun k _ hE=>?_,?_⟩⟩ ?_
 ·simp only [E] at hE; simp [Array.getD_eq_getD_getElem?,Array.getElem?_replicate] at hE
  split at hE<;>simp at hE
 ·simp only [E] at hE; simp [Array.getD_eq_getD_getElem?,Array.getElem?_replicate] at hE
  split at hE<;>simp at hE
 ·refine hIE (fun _=>false) _ a _ (fun i hi=>?_) h0
  simp only [Array.getD_eq_getD_getElem?,Array.getElem?_replicate]
  split<;>rfl
 ·refine Nat.le_trans (List.length_filter_le _ _) (by simp)
end
end Gx

/- One operation, with the rest of the state set aside. -/
namespace Gx
open Go Go.RowKit Gd
set_option linter.unusedVariables false
set_option linter.unusedSimpArgs false
theorem Au {β:Nat→Nat} {ρ:Nat→Value}:∀{M:List (Nat×Ob)} {q:Nat×Ob},Vu M=true→q∈M→∀{b o:Nat},(Qp β ρ q.1 q.2).blks b→(Qp β ρ q.1 q.2).cov b o
 | (k,ob)::l,q,h,hq,b,o,hb=>by
  cases ob with
  | tail e t xs=>cases h
  | mapT k1 v p e u xs hl=>cases h
  | _ =>
   rcases List.mem_cons.1 hq with rfl | hq
   ·exact hb
   ·exact Au (M:=l) h hq hb
def Q4j (o:Oper) (a a':Act):Prop:=∀t,o.dst≠some t→a'.tmps[t]?=a.tmps[t]?
def Q4k (o:Oper) (a:Act) (Q:Exit→Act→World→Prop):Exit→Act→World→Prop
 | .normal,a',w'=>Q4j o a a'→Q .normal a' w'
 | e,a',w'=>Q e a' w'
theorem Hj (o:Oper) (a:Act) (v:Value):Q4j o a (a.put o.dst v):=by
 intro t ht
 cases hd:o.dst with
 | none=>rfl
 | some d=>exact Y2 (fun e=>ht (by rw [hd,e])) v
theorem Qdg {P:Program} {ops:Array Oper} {Q:Exit→Act→World→Prop} {o:Oper} {a:Act} {w:World} (h:wpList P ops (Q4k o a Q) [o] a w):wpList P ops Q [o] a w:=by
 unfold wpList at h ⊢
 split at h
 ·rename_i hw
  rw [if_pos hw]
  rcases h with h | ⟨h1,h2⟩
  ·left
   unfold Oper.wp at h ⊢
   cases hr:(execOp a.eval o).run P w with
   | ok nx w' =>
    rw [hr] at h
    cases nx with
    | value v=>exact h (Hj o a v)
    | skip=>exact h (Hj o a undef)
    | defer d =>
     refine h fun t ht=>?_
     have:=Hj o { a with defers:=d::a.defers } undef t ht
     exact this
    | enter f args =>
     refine Calls.mono h fun e w' he=>?_
     cases e with
     | returned v=>exact he (Hj o a v)
     | panicked c=>exact he
     | outgrown=>exact he
    | row r args=>exact Rows.mono h fun v w' hv=>hv (Hj o a v)
    | _=>exact h.elim
   | halt hl w' =>
    rw [hr] at h
    cases hl with
    | panic v=>exact h
    | _=>exact h.elim
  ·exact .inr ⟨h1,h2⟩
 ·rename_i hw
  rw [if_neg hw]
  exact h (Hj o a undef)
open Classical in
noncomputable def Kf (n:Nat) (O:List TL):List Nat:=(List.range n).filter fun g=>decide (∃t∈O,t.blks g)
section
variable {P:Program} {Y:TX} {X:Cx} {β:Nat→Nat} {ρ:Nat→Value} {a:Act} {w:World} {ops:Array Oper} {Q:Exit→Act→World→Prop} {o:Oper}
theorem Qqb (hG:Vf Y.gl (okN X) X.w) (hr:X.res=[]) (hp:X.pin=none) {Ve Fe:List En} {Vm Fm:List (Nat×Ob)} {S1:St} {pr:List Nat} (h:Rel X β ρ ⟨Ve++Fe,Vm++Fm⟩ a w) (hV:Vu Vm=true)
    (hF:∀e∈Fe,(∀i∈Q2 e.av,i∈pr)∧∀d,o.dst=some d→e.t≠d∧∀c∈e.cs,c.1≠d) (hFm:∀i∈Q3 Fm,i∈pr)
    (hstep:∀(X1:Cx) (Q1:Exit→Act→World→Prop),X1.n=X.n→X1.res=[]→X1.pin=none→Vf Y.gl (okN X1) X1.w→Rel X1 β ρ ⟨Ve,Vm⟩ a w→(∀β' ρ' a' w',agP pr β β' ρ ρ'→Rel X1 β' ρ' S1 a' w'→Q1 .normal a' w')→wpList P ops Q1 [o] a w)
    (H:∀β' ρ' a' w',agP pr β β' ρ ρ'→Rel X β' ρ' ⟨S1.env++Fe,S1.mem++Fm⟩ a' w'→Q .normal a' w'):wpList P ops Q [o] a w:=by
  have eM:Qc β ρ (Vm++Fm)=Qc β ρ Vm++Qc β ρ Fm:=List.map_append
  have hS:Sb (fun _=>0) X [] ((Ve++Fe).map (enD β ρ a)) [] (Qc β ρ Vm++Qc β ρ Fm) a w:=by rw [←eM]; exact h
  have hL1:∀t∈Qc β ρ Vm,∀g,t.blks g→g∈Kf w.heap.size (Qc β ρ Vm):=fun t ht g hg=>by
    unfold Kf
    exact List.mem_filter.2 ⟨List.mem_range.2 (hS.olt (List.mem_append_left _ ht) hg),by simp only [decide_eq_true_eq]; exact ⟨t,ht,hg⟩⟩
  have hL2:∀g∈Kf w.heap.size (Qc β ρ Vm),∃t∈Qc β ρ Vm,t.blks g:=fun g hg=>by
    unfold Kf at hg
    have:=(List.mem_filter.1 hg).2
    simpa only [decide_eq_true_eq] using this
  have hcov:∀t∈Qc β ρ Vm,∀b o,t.blks b→t.cov b o:=fun t ht b o hb=>by
    obtain ⟨q,hq,rfl⟩:=List.mem_map.1 ht
    exact Au hV hq hb
  have hk:∀b f,Q5 X.ok X.w.heap.size (fun _=>0) [] (Qc β ρ Vm++Qc β ρ Fm) w b f→Q5 (okL (Kf w.heap.size (Qc β ρ Vm)) (Q5 X.ok X.w.heap.size (fun _=>0) [] (Qc β ρ Vm++Qc β ρ Fm) w)) w.heap.size (fun _=>0) [] (Qc β ρ Vm) w b f :=
    fun b f hbo=>⟨.inl (.inl hbo),hbo.2.1,by simp,fun t ht hc=>hbo.2.2.2 t (List.mem_append_left _ ht) hc⟩
  refine Qdg (hstep { cxL (Kf w.heap.size (Qc β ρ Vm)) X.n (Q5 X.ok X.w.heap.size (fun _=>0) [] (Qc β ρ Vm++Qc β ρ Fm) w) w with dfs:=X.dfs } (Q4k o a Q) rfl rfl rfl ?_ ?_ fun β' ρ' a' w' hag hR hsame=>?_)
  · exact (Wu hS hG).weak fun b f hbo=>⟨.inl hbo,fun hbl=>by
      obtain ⟨t,ht,hg⟩:=hL2 b hbl
      exact hbo.2.2.2 t (List.mem_append_left _ ht) (hcov t ht b f hg),hbo.2.1⟩
  · exact { sz:=hS.sz,df:=hS.df,fr:=by simp,pn:=by simp,tm:=by simp,bel:=Vq.refl _ _ _,obj:=by simp,dHH:=by simp,dHO:=by simp,
            dat:=Jf.2 fun x hx=>by
              obtain ⟨e,he,rfl⟩:=List.mem_map.1 hx
              exact (enD β ρ a e).weak (Jf.1 hS.dat _ (List.mem_map.2 ⟨e,List.mem_append_left _ he,rfl⟩)) hk,
            own:=fun t ht=>⟨t.weak (hS.own t (List.mem_append_left _ ht)).1 hk,fun g hg=>.inr (hL1 t ht g hg)⟩,
            dOO:=(List.pairwise_append.1 hS.dOO).1 }
  · have hC:=Sb.callO (O1':=Qc β' ρ' S1.mem) hS hR.bel hL2 hcov (fun t ht=>⟨(hR.own t ht).1,fun g hg=>(hR.own t ht).2 g hg⟩) hR.dOO
    have hsim:V2 (Qc β ρ Fm) (Qc β' ρ' Fm):=Tj fun i hi=>hag i (hFm i hi)
    have hC2:=hC.simO ((V2.refl (Qc β' ρ' S1.mem)).append hsim)
    have hmem:Qc β' ρ' (S1.mem++Fm)=Qc β' ρ' S1.mem++Qc β' ρ' Fm:=List.map_append
    have hC3:Sb (fun _=>0) X [] [] [] (Qc β' ρ' S1.mem++Qc β' ρ' Fm) a' w' :=
      { sz:=hR.sz,df:=hR.df,fr:=by rw [hr]; simp,pn:=by rw [hp]; simp,tm:=by simp,bel:=hC2.bel,dat:=trivial,obj:=by simp,own:=hC2.own,dHH:=by simp,dHO:=by simp,dOO:=hC2.dOO }
    refine H β' ρ' a' w' hag (Rel.ofSb hC3 hmem.symm fun e he=>?_)
    rcases List.mem_append.1 he with he | he
    · have h1:=Jf.1 hR.dat _ (List.mem_map.2 ⟨e,he,rfl⟩)
      refine (enD β' ρ' a' e).weak h1 fun b f hbf=>?_
      have h2:=Hg hS hR.bel.size hL2 b f hbf
      have h3:=((V2.refl (Qc β' ρ' S1.mem)).append hsim).ok b f h2
      unfold okR
      rw [hmem]
      exact h3
    · have h1:=Jf.1 hC2.dat _ (List.mem_map.2 ⟨e,List.mem_append_right _ he,rfl⟩)
      obtain ⟨hi,hd⟩:=hF e he
      have ht:∀t,(∀d,o.dst=some d→t≠d)→a'.tmps[t]?=a.tmps[t]?:=fun t ht=>hsame t fun hd=>ht t hd rfl
      have hcc:Jw a' e.cs↔Jw a e.cs:=⟨fun hc c hm=>by rw [←ht _ fun d hd'=>(hd d hd').2 c hm]; exact hc c hm,fun hc c hm=>by rw [ht _ fun d hd'=>(hd d hd').2 c hm]; exact hc c hm⟩
      have hrd:rd a' e.t=rd a e.t:=by unfold rd; rw [ht _ fun d hd'=>(hd d hd').1]
      refine ⟨fun hc=>?_,?_⟩
      · obtain ⟨cs,q1,q2⟩:=h1.1 (hcc.1 hc)
        refine ⟨cs,by rw [hrd]; exact q1,?_⟩
        unfold okR
        rw [hmem]
        exact Zu (fun i hm=>hag i (hi i hm)) q2
      · rw [hcc,hrd]; exact h1.2
end
end Gx

/- Regions of open order by ordinary steps: what is found, what is one's own. -/
namespace Gx
open Go Go.RowKit Gd
set_option linter.unusedVariables false
set_option linter.unusedSimpArgs false
theorem Qgo {id:Nat} {e:EC} {c:Option Ob} (h:U5 id e=false):upC id e c=c:=by
 unfold U5 at h
 unfold upC
 cases hl:Mm e.ups id with
 | none=>rfl
 | some x=>rw [hl] at h; cases h
theorem Ez {E:Nat→Bool} {id:Nat}:∀{l1 l2:List EC} {j:Nat} {c:Option Ob},Y0 E id (l1++l2) j c=Y0 E id l2 (j+l1.length) (Y0 E id l1 j c)
 | [],l2,j,c=>rfl
 | e::l1,l2,j,c=>by
  simp only [List.cons_append,Y0,Ez (l1:=l1),List.length_cons]
  rw [show j+1+l1.length=j+(l1.length+1) by omega]
theorem H8 {E E':Nat→Bool} {id:Nat}:∀{l:List EC} {j:Nat} {c:Option Ob},(∀(k:Nat) e,l[k]?=some e→U5 id e=true→E (j+k)=E' (j+k))→Y0 E id l j c=Y0 E' id l j c
 | [],j,c,_=>rfl
 | e0::l,j,c,h=>by
  simp only [Y0]
  have e:(bif E j then upC id e0 c else c)=(bif E' j then upC id e0 c else c):=by
   cases ht:U5 id e0 with
   | true=>rw [show E j=E' j from h 0 _ rfl ht]
   | false=>rw [Qgo ht]; cases E j<;>cases E' j<;>rfl
  rw [e]
  exact H8 fun k g hk ht=>by
   have:=h (k+1) g (by simpa using hk) ht
   rw [show j+1+k=j+(k+1) by omega]; exact this
theorem Hk {E:Nat→Bool} {id:Nat}:∀{l:List EC} {j:Nat} {c:Option Ob},(∀(k:Nat) e,l[k]?=some e→U5 id e=true→E (j+k)=false)→Y0 E id l j c=c
 | [],j,c,_=>rfl
 | e0::l,j,c,h=>by
  simp only [Y0]
  have e:(bif E j then upC id e0 c else c)=c:=by
   cases ht:U5 id e0 with
   | true=>rw [show E j=false from h 0 _ rfl ht]; rfl
   | false=>rw [Qgo ht]; cases E j<;>rfl
  rw [e]
  exact Hk fun k g hk ht=>by
   have:=h (k+1) g (by simpa using hk) ht
   rw [show j+1+k=j+(k+1) by omega]; exact this
theorem Qdh {acc:List EC} {i:Nat} {g:EC} (hg:acc[i]?=some g):acc=acc.take i++g::acc.drop (i+1)∧(acc.take i).length=i:=by
 have hi:i<acc.length:=(List.getElem?_eq_some_iff.1 hg).1
 rw [List.getElem?_eq_getElem hi] at hg
 injection hg with hg
 refine ⟨?_,by rw [List.length_take]; omega⟩
 rw [←hg,←List.drop_eq_getElem_cons hi,List.take_append_drop]
section
variable {E:Nat→Bool} {acc:List EC} {i id:Nat} {g:EC} {c:Option Ob}
theorem Qqc (hg:acc[i]?=some g) (hi:E i=false) (he:∀(j:Nat) g',acc[j]?=some g'→j<i→U5 id g'=true→E j=true) (hl:∀(j:Nat) g',acc[j]?=some g'→i<j→U5 id g'=true→E j=false) :
  Y0 E id acc 0 c=Y0 Us id (acc.take i) 0 c:=by
 obtain ⟨e1,e2⟩:=Qdh hg
 have e3:Y0 E id acc 0 c=Y0 E id (acc.take i++g::acc.drop (i+1)) 0 c:=by rw [←e1]
 rw [e3,Ez,e2,Nat.zero_add]
 simp only [Y0,hi,cond_false]
 rw [Hk fun k g' hk ht=>hl (i+1+k) g' (by rw [List.getElem?_drop] at hk; exact hk) (by omega) ht]
 refine H8 fun k g' hk ht=>?_
 rw [List.getElem?_take] at hk
 split at hk
 ·rw [Nat.zero_add,he k g' hk (by omega) ht]; rfl
 ·cases hk
theorem Qqd (hg:acc[i]?=some g) (hi:E i=false) (hl:∀(j:Nat) g',acc[j]?=some g'→i<j→U5 id g'=true→E j=false) :
  Y0 (Zh E i) id acc 0 c=upC id g (Y0 E id acc 0 c):=by
 obtain ⟨e1,e2⟩:=Qdh hg
 have e3:∀E,Y0 E id acc 0 c=Y0 E id (acc.take i++g::acc.drop (i+1)) 0 c:=fun E=>by rw [←e1]
 rw [e3,e3,Ez,Ez,e2,Nat.zero_add]
 simp only [Y0,hi,cond_false,BEq.rfl,Bool.true_or,cond_true]
 have h1:Y0 (Zh E i) id (acc.take i) 0 c=Y0 E id (acc.take i) 0 c:=H8 fun k g' hk ht=>by
  have:k<i:=by
   rw [List.getElem?_take] at hk
   split at hk
   ·assumption
   ·cases hk
  simp only [Zh,Nat.zero_add]
  rw [show (k==i)=false by simp; omega]; rfl
 have h2:∀c',Y0 (Zh E i) id (acc.drop (i+1)) (i+1) c'=c':=fun c'=>Hk fun k g' hk ht=>by
  simp only [Zh]
  rw [show (i+1+k==i)=false by simp; omega]
  exact hl (i+1+k) g' (by rw [List.getElem?_drop] at hk; exact hk) (by omega) ht
 have h3:∀c',Y0 E id (acc.drop (i+1)) (i+1) c'=c':=fun c'=>Hk fun k g' hk ht=>hl (i+1+k) g' (by rw [List.getElem?_drop] at hk; exact hk) (by omega) ht
 rw [h2,h3,h1]
 simp only [Zh,BEq.rfl,Bool.true_or,cond_true]
theorem Qqe (hg:acc[i]?=some g) (ht:U5 id g=false):Y0 (Zh E i) id acc 0 c=Y0 E id acc 0 c :=
 H8 fun k g' hk ht'=>by
  rw [Nat.zero_add]
  by_cases e:k=i
  ·subst e
   rw [hg] at hk; injection hk with hk; subst hk
   rw [ht] at ht'; cases ht'
  ·simp only [Zh]
   rw [show (k==i)=false by simp; omega]; rfl
theorem I4 {E:Nat→Bool}:∀{acc:List EC} {j:Nat} {e:En},e∈Gu E acc j→∃(k:Nat) (g:EC),acc[k]?=some g∧E (j+k)=true∧g.has=true∧e=⟨g.d,[],g.av⟩
 | [],j,e,h=>by cases h
 | g::l,j,e,h=>by
  simp only [Gu] at h
  cases hb:(E j&&g.has) with
  | true =>
   rw [hb] at h
   simp only [Bool.and_eq_true] at hb
   rcases List.mem_cons.1 h with rfl | h
   ·exact ⟨0,g,rfl,hb.1,hb.2,rfl⟩
   ·obtain ⟨k,g',h1,h2,h3,h4⟩:=I4 h
    exact ⟨k+1,g',by simpa using h1,by rw [show j+(k+1)=j+1+k by omega]; exact h2,h3,h4⟩
  | false =>
   rw [hb] at h
   obtain ⟨k,g',h1,h2,h3,h4⟩:=I4 h
   exact ⟨k+1,g',by simpa using h1,by rw [show j+(k+1)=j+1+k by omega]; exact h2,h3,h4⟩
theorem Qbd {E:Nat→Bool}:∀{acc:List EC} {j k:Nat} {g:EC},acc[k]?=some g→E (j+k)=true→g.has=true→(⟨g.d,[],g.av⟩:En)∈Gu E acc j
 | [],j,k,g,h,_,_=>by simp at h
 | g0::l,j,0,g,h,h1,h2=>by
  simp at h; subst h
  simp only [Gu]
  rw [show (E j&&g0.has)=true by rw [show E j=true from h1,h2]; rfl]
  exact .head _
 | g0::l,j,k+1,g,h,h1,h2=>by
  have:=Qbd (acc:=l) (j:=j+1) (k:=k) (by simpa using h) (by rw [show j+1+k=j+(k+1) by omega]; exact h1) h2
  simp only [Gu]
  cases (E j&&g0.has) with
  | true=>exact .tail _ this
  | false=>exact this
end
theorem Qlt {ids:List Nat}:∀{names:List Nat},ids.Nodup→names.Nodup→(∀i∈ids,i∈names)→names.Perm (ids++names.filter fun i=>!J9 ids i):=by
 induction ids with
 | nil =>
  intro names _ _ _
  have:(names.filter fun i=>!J9 [] i)=names:=List.filter_eq_self.2 fun _ _=>rfl
  rw [this]
  exact List.Perm.refl _
 | cons x ids ih =>
  intro names hi hn hs
  have hi':=List.nodup_cons.1 hi
  obtain ⟨l1,l2,rfl⟩:=List.append_of_mem (hs x (.head _))
  have hn2:(l1++l2).Nodup∧x∉l1++l2:=by
   have:=(List.perm_middle.nodup_iff (l₁:=l1++x::l2)).1 hn
   exact ⟨(List.nodup_cons.1 this).2,(List.nodup_cons.1 this).1⟩
  have h1:=ih (names:=l1++l2) hi'.2 hn2.1 fun i him=>by
   have:=hs i (.tail _ him)
   rcases List.mem_append.1 this with h | h
   ·exact List.mem_append_left _ h
   ·rcases List.mem_cons.1 h with rfl | h
    ·exact absurd him hi'.1
    ·exact List.mem_append_right _ h
  have e:((l1++x::l2).filter fun i=>!J9 (x::ids) i)=(l1++l2).filter fun i=>!J9 ids i:=by
   have hf:∀l:List Nat,x∉l→(l.filter fun i=>!J9 (x::ids) i)=l.filter fun i=>!J9 ids i:=fun l hx=>by
    refine List.filter_congr fun i him=>?_
    have hne:x≠i:=fun e=>hx (e▸him)
    simp only [J9,Pw hne,Bool.false_or]
   rw [List.filter_append,List.filter_cons]
   have hx0:(!J9 (x::ids) x)=false:=by simp [J9,Nat.beq_refl]
   rw [hx0]
   simp only [Bool.false_eq_true,if_false]
   rw [hf l1 fun h=>hn2.2 (List.mem_append_left _ h),hf l2 fun h=>hn2.2 (List.mem_append_right _ h),List.filter_append]
  rw [e]
  exact List.perm_middle.trans (List.Perm.cons x h1)
end Gx

/- One operation of a region of open order, by an ordinary step. -/
namespace Gx
open Go Go.RowKit Gd
set_option linter.unusedVariables false
set_option linter.unusedSimpArgs false
theorem Lx:∀{ids:List Nat} {M:List (Nat×Ob)},ids.Nodup→(Je M ids).2=ids.filterMap fun t=>Zc t (Qb M t)
 | [],M,_=>rfl
 | t::ts,M,hn=>by
  have hn':=List.nodup_cons.1 hn
  simp only [Je,List.filterMap_cons]
  cases hl:Qb M t with
  | none=>simp only [Zc]; exact Lx hn'.2
  | some o =>
   simp only [Zc]
   rw [Lx (M:=J3 M t) hn'.2]
   congr 1
   exact Yb fun j hj=>by rw [Pe fun (e:j=t)=>hn'.1 (by rw [←e]; exact hj)]; cases Qb M j<;>rfl
theorem F2 {f:Nat→Option Ob} {id:Nat}:∀{ids:List Nat},Mm (ids.map fun i=>(i,f i)) id=if id∈ids then some (f id) else none
 | []=>rfl
 | k::l=>by
  simp only [List.map_cons,Mm]
  cases hb:Nat.beq k id with
  | true =>
   have:=Nat.eq_of_beq_eq_true hb
   subst this
   simp
  | false =>
   have hne:id≠k:=fun e=>by subst e; simp [Nat.beq_refl] at hb
   simp only [cond_false,F2 (ids:=l),List.mem_cons,hne,false_or]
section
variable {P:Program} {Y:TX} {X:Cx} {β:Nat→Nat} {ρ:Nat→Value} {a:Act} {w:World} {ops:Array Oper} {Q:Exit→Act→World→Prop} {o:Oper}
theorem Qqf (hG:Vf Y.gl (okN X) X.w) (hr:X.res=[]) (hp:X.pin=none) {names:List Nat} {Zs Mb:List (Nat×Ob)} {acc:List EC} {E:Nat→Bool} {B Ve:List En} {i:Nat} {g:EC} {tch ro bs pr:List Nat} {S1:XS}
  (h:Rel X β ρ ⟨Gu E acc 0++B,Wd names Zs acc E++Mb⟩ a w) (hg:acc[i]?=some g) (hi:E i=false) (hnn:names.Nodup) (hnd:(tch++ro++bs).Nodup) (hsub:∀id∈tch++ro++bs,id∈names)
  (hearly:∀id∈tch++ro,∀(j:Nat) g',acc[j]?=some g'→j<i→U5 id g'=true→E j=true) (hlate:∀id∈tch++ro++bs,∀(j:Nat) g',acc[j]?=some g'→i<j→U5 id g'=true→E j=false)
  (hbs:∀id∈bs,Y0 E id acc 0 (Qb Zs id)=none) (hVe:∀e∈Ve,e∈Gu E acc 0++B) (hups:g.ups=(tch++bs).map fun id=>(id,Qb S1.mem id)) (hgd:g.has=true→∃cs,(⟨g.d,cs,g.av⟩:En)∈S1.env∧cs=[]) (hod:∀d,o.dst=some d→d=g.d)
  (hnt:Vu ((tch.filterMap fun id=>Zc id (Y0 Us id (acc.take i) 0 (Qb Zs id)))++ro.filterMap fun id=>Zc id (Y0 Us id (acc.take i) 0 (Qb Zs id)))=true)
  (hF:∀e∈Gu E acc 0++B,(∀i∈Q2 e.av,i∈pr)∧∀d,o.dst=some d→e.t≠d∧∀c∈e.cs,c.1≠d) (hFm:∀id∈Q3 (((names.filter fun j=>!J9 (tch++ro++bs) j).filterMap fun id=>Zc id (Y0 E id acc 0 (Qb Zs id)))++Mb),id∈pr)
  (hstep:∀(X1:Cx) (Q1:Exit→Act→World→Prop),X1.n=X.n→X1.res=[]→X1.pin=none→Vf Y.gl (okN X1) X1.w→Rel X1 β ρ ⟨Ve,(tch.filterMap fun id=>Zc id (Y0 Us id (acc.take i) 0 (Qb Zs id)))++ro.filterMap fun id=>Zc id (Y0 Us id (acc.take i) 0 (Qb Zs id))⟩ a w→(∀β' ρ' a' w',agP pr β β' ρ ρ'→Rel X1 β' ρ' ⟨S1.env,S1.mem++(ro.filterMap fun id=>Zc id (Y0 Us id (acc.take i) 0 (Qb Zs id)))⟩ a' w'→Q1 .normal a' w')→wpList P ops Q1 [o] a w)
  (H:∀β' ρ' a' w',agP pr β β' ρ ρ'→Rel X β' ρ' ⟨Gu (Zh E i) acc 0++B,Wd names Zs acc (Zh E i)++Mb⟩ a' w'→Q .normal a' w'):wpList P ops Q [o] a w:=by
 have hpart:=Qlt hnd hnn hsub
 have hnow:∀id∈tch++ro,Y0 E id acc 0 (Qb Zs id)=Y0 Us id (acc.take i) 0 (Qb Zs id):=fun id hm=>Qqc hg hi (hearly id hm) (hlate id (List.mem_append_left _ hm))
 have hT:(tch.filterMap fun id=>Zc id (Y0 E id acc 0 (Qb Zs id)))=tch.filterMap fun id=>Zc id (Y0 Us id (acc.take i) 0 (Qb Zs id)):=(Yb fun id hm=>by rw [hnow id (List.mem_append_left _ hm)])
 have hR:(ro.filterMap fun id=>Zc id (Y0 E id acc 0 (Qb Zs id)))=ro.filterMap fun id=>Zc id (Y0 Us id (acc.take i) 0 (Qb Zs id)):=(Yb fun id hm=>by rw [hnow id (List.mem_append_right _ hm)])
 have hB0:(bs.filterMap fun id=>Zc id (Y0 E id acc 0 (Qb Zs id)))=[]:=by
  rw [List.filterMap_eq_nil_iff]
  intro id hm
  rw [hbs id hm]; rfl
 have hpm:(Wd names Zs acc E++Mb).Perm ((tch.filterMap fun id=>Zc id (Y0 Us id (acc.take i) 0 (Qb Zs id)))++(ro.filterMap fun id=>Zc id (Y0 Us id (acc.take i) 0 (Qb Zs id)))++(((names.filter fun j=>!J9 (tch++ro++bs) j).filterMap fun id=>Zc id (Y0 E id acc 0 (Qb Zs id)))++Mb)):=by
  have h1:=hpart.filterMap fun id=>Zc id (Y0 E id acc 0 (Qb Zs id))
  rw [List.filterMap_append,List.filterMap_append,List.filterMap_append,hT,hR,hB0,List.append_nil] at h1
  rw [←List.append_assoc]
  exact h1.append_right Mb
 have h2:Rel X β ρ ⟨Ve++(Gu E acc 0++B),_⟩ a w:=Rel.less (Rel.permM h hpm) fun e he=>by
  rcases List.mem_append.1 he with he | he
  ·exact hVe e he
  ·exact he
 refine Qqb hG hr hp h2 hnt hF hFm hstep fun β' ρ' a' w' hag hR1=>H β' ρ' a' w' hag ?_
 have htc:∀id,U5 id g=decide (id∈tch++bs):=fun id=>by
  unfold U5
  rw [hups,F2]
  by_cases hm:id∈tch++bs
  ·rw [if_pos hm]; simp [Zk,hm]
  ·rw [if_neg hm]; simp [Zk,hm]
 have hup:∀id∈tch++bs,Y0 (Zh E i) id acc 0 (Qb Zs id)=Qb S1.mem id:=fun id hm=>by
  have hm3:id∈tch++ro++bs:=by
   rcases List.mem_append.1 hm with h | h
   ·exact List.mem_append_left _ (List.mem_append_left _ h)
   ·exact List.mem_append_right _ h
  rw [Qqd hg hi (hlate id hm3)]
  unfold upC
  rw [hups,F2,if_pos hm]
 have hoff:∀id,id∉tch++bs→Y0 (Zh E i) id acc 0 (Qb Zs id)=Y0 E id acc 0 (Qb Zs id):=fun id hm=>Qqe hg (by rw [htc]; simpa using hm)
 have hnd2:=List.nodup_append.1 hnd
 have hnd3:=List.nodup_append.1 hnd2.1
 have hndtb:(tch++bs).Nodup:=by
  rw [List.nodup_append]
  exact ⟨hnd3.1,hnd2.2.1,fun x hx y hy=>hnd2.2.2 x (List.mem_append_left _ hx) y hy⟩
 have hpm2:(Wd names Zs acc (Zh E i)++Mb).Perm ((Je S1.mem (tch++bs)).2++(ro.filterMap fun id=>Zc id (Y0 Us id (acc.take i) 0 (Qb Zs id)))++(((names.filter fun j=>!J9 (tch++ro++bs) j).filterMap fun id=>Zc id (Y0 E id acc 0 (Qb Zs id)))++Mb)):=by
  have h1:=hpart.filterMap fun id=>Zc id (Y0 (Zh E i) id acc 0 (Qb Zs id))
  rw [List.filterMap_append,List.filterMap_append,List.filterMap_append] at h1
  have e1:((tch.filterMap fun id=>Zc id (Y0 (Zh E i) id acc 0 (Qb Zs id)))++(bs.filterMap fun id=>Zc id (Y0 (Zh E i) id acc 0 (Qb Zs id))))=(Je S1.mem (tch++bs)).2:=by
   rw [Lx hndtb,←List.filterMap_append]
   exact Yb fun id hm=>by rw [hup id hm]
  have e2:(ro.filterMap fun id=>Zc id (Y0 (Zh E i) id acc 0 (Qb Zs id)))=(ro.filterMap fun id=>Zc id (Y0 Us id (acc.take i) 0 (Qb Zs id))):=by
   rw [←hR]
   refine Yb fun id hm=>by
    rw [hoff id fun hm2=>?_]
    rcases List.mem_append.1 hm2 with h | h
    ·exact hnd3.2.2 id h id hm rfl
    ·exact hnd2.2.2 id (List.mem_append_right _ hm) id h rfl
  have e3:((names.filter fun j=>!J9 (tch++ro++bs) j).filterMap fun id=>Zc id (Y0 (Zh E i) id acc 0 (Qb Zs id)))=(names.filter fun j=>!J9 (tch++ro++bs) j).filterMap fun id=>Zc id (Y0 E id acc 0 (Qb Zs id)):=by
   refine Yb fun id hm=>by
    rw [hoff id fun hm2=>?_]
    have h3:=(List.mem_filter.1 hm).2
    have hm3:id∈tch++ro++bs:=by
     rcases List.mem_append.1 hm2 with h | h
     ·exact List.mem_append_left _ (List.mem_append_left _ h)
     ·exact List.mem_append_right _ h
    rw [W9 hm3] at h3; cases h3
  rw [e2,e3] at h1
  rw [←e1,←List.append_assoc]
  refine (h1.append_right Mb).trans ?_
  refine List.Perm.append_right _ (List.Perm.append_right _ ?_)
  rw [List.append_assoc,List.append_assoc]
  exact List.Perm.append_left _ List.perm_append_comm
 have hsp:(S1.mem++(ro.filterMap fun id=>Zc id (Y0 Us id (acc.take i) 0 (Qb Zs id)))++(((names.filter fun j=>!J9 (tch++ro++bs) j).filterMap fun id=>Zc id (Y0 E id acc 0 (Qb Zs id)))++Mb)).Perm ((Je S1.mem (tch++bs)).1++((Je S1.mem (tch++bs)).2++(ro.filterMap fun id=>Zc id (Y0 Us id (acc.take i) 0 (Qb Zs id)))++(((names.filter fun j=>!J9 (tch++ro++bs) j).filterMap fun id=>Zc id (Y0 E id acc 0 (Qb Zs id)))++Mb))):=by
  have h1:=(Ut (tch++bs) S1.mem).symm.trans List.perm_append_comm
  have h3:=(h1.append_right (ro.filterMap fun id=>Zc id (Y0 Us id (acc.take i) 0 (Qb Zs id)))).append_right (((names.filter fun j=>!J9 (tch++ro++bs) j).filterMap fun id=>Zc id (Y0 E id acc 0 (Qb Zs id)))++Mb)
  simpa only [List.append_assoc] using h3
 have hR2:=Rel.permM hR1 hsp
 have hR3:Rel X β' ρ' ⟨S1.env++(Gu E acc 0++B),(Je S1.mem (tch++bs)).2++(ro.filterMap fun id=>Zc id (Y0 Us id (acc.take i) 0 (Qb Zs id)))++(((names.filter fun j=>!J9 (tch++ro++bs) j).filterMap fun id=>Zc id (Y0 E id acc 0 (Qb Zs id)))++Mb)⟩ a' w':=Sb.subO hR2 ((List.sublist_append_right _ _).map _)
 refine Rel.less (Rel.permM hR3 hpm2.symm) fun e he=>?_
 rcases List.mem_append.1 he with he | he
 ·obtain ⟨k,g',q1,q2,q3,rfl⟩:=I4 he
  rw [Nat.zero_add] at q2
  by_cases hki:k=i
  ·subst hki
   rw [hg] at q1; injection q1 with q1; subst q1
   obtain ⟨cs,hm,rfl⟩:=hgd q3
   exact List.mem_append_left _ hm
  ·simp only [Zh] at q2
   rw [show (k==i)=false by simp; omega,Bool.false_or] at q2
   exact List.mem_append_right _ (List.mem_append_left _ (Qbd q1 (by rw [Nat.zero_add]; exact q2) q3))
 ·exact List.mem_append_right _ (List.mem_append_right _ he)
end
end Gx

/- A region of open order by ordinary steps: the interpreter. -/
namespace Gx
open Go Go.RowKit Gd
set_option linter.unusedVariables false
set_option linter.unusedSimpArgs false
theorem Tv:∀{acc:List EC} {t:Nat} {v:AV},Is acc t=some v→∃g∈acc,g.d=t∧g.has=true∧g.av=v
 | [],t,v,h=>by simp [Is] at h
 | g::l,t,v,h=>by
  simp only [Is] at h
  cases hb:(Nat.beq g.d t&&g.has) with
  | true =>
   rw [hb] at h
   simp only [Bool.and_eq_true] at hb
   simp only [cond_true,Option.some.injEq] at h
   exact ⟨g,.head _,Nat.eq_of_beq_eq_true hb.1,hb.2,h⟩
  | false =>
   rw [hb] at h
   obtain ⟨g',h1,h2⟩:=Tv h
   exact ⟨g',.tail _ h1,h2⟩
theorem F3 {l0:List Oper} {ds:List Nat} {i:Nat} {acc:List EC} {B:List En}:∀{ts:List Nat} {e:En},e∈O5 l0 ds i acc B ts →
  (e.cs=[]∧Is acc e.t=some e.av∧Ku l0 i (ds.idxOf e.t)=true)∨e∈B
 | [],e,h=>by
  obtain ⟨h1,h2,h3⟩:=B8 (by simpa [O5] using h)
  exact .inr h2
 | t::ts,e,h=>by
  simp only [O5] at h
  split at h
  ·rename_i v hv
   cases hp:Ku l0 i (ds.idxOf t) with
   | true =>
    rw [hp] at h
    rcases List.mem_cons.1 h with rfl | h
    ·exact .inl ⟨rfl,hv,hp⟩
    ·exact F3 h
   | false=>rw [hp] at h; exact F3 h
  ·cases hb:Hp ds t with
   | true =>
    rw [hb] at h
    simp only [cond_true] at h
    split at h
    ·rename_i t' v he
     obtain ⟨h1,h2⟩:=V6 he
     rcases List.mem_cons.1 h with rfl | h
     ·exact .inr h1
     ·exact F3 h
    ·exact F3 h
   | false=>rw [hb] at h; exact F3 h
theorem Gj {l m:List Nat} (h:Bb l m=true) {x:Nat} (h1:x∈l) (h2:x∈m):False:=by
 have:=List.all_eq_true.1 h x h1
 rw [W9 h2] at this; cases this
section
variable {R:Type} (Y:TX) (K:List Con) (n:Nat) (l0:List Oper) (ds:List Nat) (Zs:List (Nat×Ob)) (B:List En) (prA:List Nat)
def TrC:List HD→List Oper→Nat→List EC→List EC→Prop
 | [],[],_,_,[]=>True
 | hc::hs,o::l,i,acc,g::acc2=>(∃S1,Y7 (R:=XS) Y K n l0 hc.h [o] (O6 l0 ds Zs B prA hc o i acc) some=some S1∧Ds n ds Zs hc o i acc S1=some g)∧TrC hs l (i+1) (acc++[g]) acc2
 | _,_,_,_,_=>False
end
section
variable {R:Type} {r:R} {Y:TX} {K:List Con} {n:Nat} {l0:List Oper} {ds:List Nat} {Zs:List (Nat×Ob)} {B:List En} {prA:List Nat}
theorem P3 {acc:List EC} {t:Nat} {b:Bool} (h:Is acc t=some (.d .bool b)):Qco acc t b=acc:=by
 induction acc with
 | nil=>rfl
 | cons g l ih =>
  simp only [Is] at h
  simp only [Qco]
  cases hb:(Nat.beq g.d t&&g.has) with
  | true =>
   rw [hb] at h
   simp only [cond_true,Option.some.injEq] at h
   obtain ⟨gd,gv,gh,gu⟩:=g
   simp only at h
   subst h
   rfl
  | false =>
   rw [hb] at h
   simp only [cond_false]
   rw [ih h]
theorem Nw:∀{ht:HT} {l:List Oper} {i:Nat} {hs:List HD} {acc:List EC} {k:Hn→List HD→List EC→Option R},O7 Y K n l0 ds Zs B prA ht l i hs acc k=some r →
  ∃h hs2 acc2,k h (hs++hs2) (acc++acc2)=some r∧TrC Y K n l0 ds Zs B prA hs2 l i acc acc2∧∀x∈Zr hs2,x∈Ws ht
 | .tl h,[],i,hs,acc,k,hr=>⟨h,[],[],by simpa [O7] using hr,trivial,by simp [Zr]⟩
 | .tl h,_::_,i,hs,acc,k,hr=>by simp [O7] at hr
 | .op hc t,[],i,hs,acc,k,hr=>by simp [O7] at hr
 | .op hc t,o::l,i,hs,acc,k,hr=>by
  simp only [O7] at hr
  obtain ⟨S1,h1,h2⟩:=Pb hr
  split at h1
  ·rename_i g hg
   obtain ⟨h,hs2,acc2,h3,h4,h5⟩:=Nw h1
   refine ⟨h,hc::hs2,g::acc2,by simpa using h3,⟨⟨S1,h2,hg⟩,h4⟩,fun x hx=>?_⟩
   rcases List.mem_append.1 hx with hx | hx
   ·exact List.mem_append_left _ hx
   ·exact List.mem_append_right _ (h5 x hx)
  ·cases h1
 | .so t a b,l,i,hs,acc,k,hr=>by
  simp only [O7] at hr
  split at hr
  ·rename_i v hv
   cases v with
   | true =>
    rw [if_pos rfl,P3 hv] at hr
    obtain ⟨h,hs2,acc2,h3,h4,h5⟩:=Nw hr
    exact ⟨h,hs2,acc2,h3,h4,fun x hx=>List.mem_append_left _ (h5 x hx)⟩
   | false =>
    rw [if_neg (by simp),P3 hv] at hr
    obtain ⟨h,hs2,acc2,h3,h4,h5⟩:=Nw hr
    exact ⟨h,hs2,acc2,h3,h4,fun x hx=>List.mem_append_right _ (h5 x hx)⟩
  ·cases hr
theorem TrC.get:∀{hs:List HD} {l:List Oper} {i:Nat} {acc acc2:List EC},TrC Y K n l0 ds Zs B prA hs l i acc acc2→acc2.length=l.length∧hs.length=l.length∧∀(j:Nat) o,l[j]?=some o→∃g hc S1,acc2[j]?=some g∧hs[j]?=some hc ∧
  Y7 (R:=XS) Y K n l0 hc.h [o] (O6 l0 ds Zs B prA hc o (i+j) (acc++acc2.take j)) some=some S1∧Ds n ds Zs hc o (i+j) (acc++acc2.take j) S1=some g
 | [],[],i,acc,[],_=>⟨rfl,rfl,by simp⟩
 | [],[],i,acc,_::_,h=>h.elim
 | [],_::_,i,acc,_,h=>by simp [TrC] at h
 | _::_,[],i,acc,_,h=>by simp [TrC] at h
 | _::_,_::_,i,acc,[],h=>by simp [TrC] at h
 | hc::hs,o::l,i,acc,g::acc2,h=>by
  obtain ⟨⟨S1,q1,q2⟩,h0⟩:=h
  obtain ⟨h2,h2',h3⟩:=TrC.get h0
  refine ⟨by simp [h2],by simp [h2'],fun j o' ho=>?_⟩
  cases j with
  | zero =>
   simp at ho; subst ho
   exact ⟨g,hc,S1,rfl,rfl,by simpa using q1,by simpa using q2⟩
  | succ j =>
   obtain ⟨g',hc',S1',p1,p2,p3,p4⟩:=h3 j o' (by simpa using ho)
   refine ⟨g',hc',S1',by simpa using p1,by simpa using p2,?_,?_⟩
   ·rw [show i+(j+1)=i+1+j by omega]; simpa using p3
   ·rw [show i+(j+1)=i+1+j by omega]; simpa using p4
end
end Gx

/- A region of open order by ordinary steps. -/
namespace Gx
open Go Go.RowKit Gd
set_option linter.unusedVariables false
set_option linter.unusedSimpArgs false
theorem Hl {n:Nat} {ds:List Nat} {Zs:List (Nat×Ob)} {hc:HD} {o:Oper} {i:Nat} {acc:List EC} {S1:XS} {g:EC} (h:Ds n ds Zs hc o i acc S1=some g) :
  Vu (Db hc.tch Zs acc++Db hc.ro Zs acc)=true∧Kv hc.nm (Q3 S1.mem)=true∧(g.ups=(hc.tch++hc.bs).map fun id=>(id,Qb S1.mem id))∧ds.getD i 0=g.d∧Kv hc.nm (Q2 g.av)=true∧(∀d,o.dst=some d→d=g.d∧d<n)∧(g.has=true→∃cs,(⟨g.d,cs,g.av⟩:En)∈S1.env∧cs=[])∧(o.dst=none→n≤1000000000→n≤g.d):=by
 unfold Ds at h
 obtain ⟨hb,h⟩:=bvT h
 simp only [Bool.and_eq_true] at hb
 split at h
 ·rename_i d hd
  split at h
  ·rename_i t av hl
   obtain ⟨hb2,h⟩:=bvT h
   simp only [Bool.and_eq_true] at hb2
   simp only [Option.some.injEq] at h
   subst h
   obtain ⟨hm,ht⟩:=V6 hl
   simp only at ht
   subst ht
   exact ⟨hb.1,hb.2,rfl,Nat.eq_of_beq_eq_true hb2.1.1,hb2.1.2,fun d' hd'=>by rw [hd] at hd'; injection hd' with hd'; subst hd'; exact ⟨rfl,Nat.le_of_ble_eq_true hb2.2⟩,fun _=>⟨[],hm,rfl⟩,fun hn=>by rw [hd] at hn; cases hn⟩
  ·cases h
 ·rename_i hd
  obtain ⟨hb2,h⟩:=bvT h
  simp only [Option.some.injEq] at h
  subst h
  exact ⟨hb.1,hb.2,rfl,Nat.eq_of_beq_eq_true hb2,(by trivial),(fun d' hd'=>by rw [hd] at hd'; cases hd'),(fun h=>by cases h),fun _ hn=>by simp only; omega⟩
theorem Cd:∀{l m:List (Nat×Ob)} {i:Nat},i∈Q3 (l++m)→i∈Q3 l∨i∈Q3 m
 | [],m,i,h=>.inr h
 | (k,ob)::l,m,i,h=>by
  have key:∀{xs:List Nat},i∈xs++Q3 (l++m)→i∈xs++Q3 l∨i∈Q3 m:=fun {xs} h=>by
   rcases List.mem_append.1 h with h | h
   ·exact .inl (List.mem_append_left _ h)
   ·exact (Cd h).imp (List.mem_append_right _) id
  cases ob with
  | var t c=>exact key (xs:=k::Q2 c) (by simpa [Q3] using h) |>.imp (by simp [Q3]) id
  | mapT a b p e u xs hole =>
   cases hole with
   | none=>exact key (xs:=[k]) (by simpa [Q3] using h) |>.imp (by simp [Q3]) id
   | some q=>exact key (xs:=[k,q.2]) (by simpa [Q3] using h) |>.imp (by simp [Q3]) id
  | mapO k9 xs9 hole =>
   cases hole with
   | none=>exact key (xs:=[k]) (by simpa [Q3,Zp] using h) |>.imp (by simp [Q3,Zp]) id
   | some q=>exact key (xs:=[k,q.2]) (by simpa [Q3,Zp] using h) |>.imp (by simp [Q3,Zp]) id
  | mapE k1 v1 xs1 key1 j=>exact key (xs:=[k,j]) (by simpa [Q3] using h) |>.imp (by simp [Q3]) id
  | _=>exact key (xs:=[k]) (by simpa [Q3] using h) |>.imp (by simp [Q3]) id
theorem P4 {f:Nat→Option Ob} {i:Nat}:∀{ids:List Nat},i∈Q3 (ids.filterMap fun id=>Zc id (f id))→∃id∈ids,∃ob,f id=some ob∧i∈Q3 [(id,ob)]
 | [],h=>by cases h
 | id::ids,h=>by
  simp only [List.filterMap_cons] at h
  cases hf:f id with
  | none =>
   rw [hf] at h
   obtain ⟨id',h1,ob,h2,h3⟩:=P4 (ids:=ids) h
   exact ⟨id',.tail _ h1,ob,h2,h3⟩
  | some ob =>
   rw [hf] at h
   rcases Cd (l:=[(id,ob)]) h with h | h
   ·exact ⟨id,.head _,ob,hf,h⟩
   ·obtain ⟨id',h1,ob',h2,h3⟩:=P4 (ids:=ids) h
    exact ⟨id',.tail _ h1,ob',h2,h3⟩
theorem Tw {M:List (Nat×Ob)} {id i:Nat} {ob:Ob}:Qb M id=some ob→i∈Q3 [(id,ob)]→i∈Q3 M:=by
 intro h hi
 obtain ⟨l1,l2,e,w1,w2⟩:=Jl h
 rw [e]
 clear e h w1 w2
 induction l1 with
 | nil =>
  have key:∀{xs ys:List Nat},i∈xs++[]→i∈xs++ys:=fun h=>List.mem_append_left _ (by simpa using h)
  cases ob with
  | var t c=>have:=key (xs:=id::Q2 c) (ys:=Q3 l2) (by simpa [Q3] using hi); simpa [Q3] using this
  | mapT a b p e u xs hole =>
   cases hole with
   | none=>have:=key (xs:=[id]) (ys:=Q3 l2) (by simpa [Q3] using hi); simpa [Q3] using this
   | some q=>have:=key (xs:=[id,q.2]) (ys:=Q3 l2) (by simpa [Q3] using hi); simpa [Q3] using this
  | mapO k9 xs9 hole =>
   cases hole with
   | none=>have:=key (xs:=[id]) (ys:=Q3 l2) (by simpa [Q3,Zp] using hi); simpa [Q3,Zp] using this
   | some q=>have:=key (xs:=[id,q.2]) (ys:=Q3 l2) (by simpa [Q3,Zp] using hi); simpa [Q3,Zp] using this
  | mapE k1 v1 xs1 key1 j=>have:=key (xs:=[id,j]) (ys:=Q3 l2) (by simpa [Q3] using hi); simpa [Q3] using this
  | _=>have:=key (xs:=[id]) (ys:=Q3 l2) (by simpa [Q3] using hi); simpa [Q3] using this
 | cons q l ih =>
  obtain ⟨k,x⟩:=q
  cases x with
  | var t c=>simp only [List.cons_append,Q3]; exact .tail _ (List.mem_append_right _ ih)
  | mapT a b p e u xs hole =>
   cases hole with
   | none=>simp only [List.cons_append,Q3]; exact .tail _ ih
   | some q=>simp only [List.cons_append,Q3]; exact .tail _ (.tail _ ih)
  | mapO k9 xs9 hole =>
   cases hole with
   | none=>simp only [List.cons_append,List.nil_append,Q3,Zp]; exact .tail _ ih
   | some q=>simp only [List.cons_append,List.nil_append,Q3,Zp]; exact .tail _ (.tail _ ih)
  | mapE k1 v1 xs1 key1 j=>simp only [List.cons_append,Q3]; exact .tail _ (.tail _ ih)
  | _=>simp only [List.cons_append,Q3]; exact .tail _ ih
theorem Qdi {E:Nat→Bool} {id:Nat} {ob:Ob}:∀{l:List EC} {j:Nat} {c:Option Ob},Y0 E id l j c=some ob→c=some ob∨∃(k:Nat) (g:EC),l[k]?=some g∧E (j+k)=true∧Mm g.ups id=some (some ob)
 | [],j,c,h=>.inl h
 | g0::l,j,c,h=>by
  simp only [Y0] at h
  rcases Qdi h with h1 | ⟨k,g,h1,h2,h3⟩
  ·cases hE:E j with
   | false=>rw [hE] at h1; exact .inl h1
   | true =>
    rw [hE] at h1
    simp only [cond_true,upC] at h1
    cases hl:Mm g0.ups id with
    | none=>rw [hl] at h1; exact .inl h1
    | some x=>rw [hl] at h1; simp only at h1; subst h1; exact .inr ⟨0,g0,rfl,hE,hl⟩
  ·exact .inr ⟨k+1,g,by simpa using h1,by rw [show j+(k+1)=j+1+k by omega]; exact h2,h3⟩
end Gx
