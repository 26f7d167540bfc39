/- What a step gives does not depend on what comes behind it. -/
import Derived.Test.YtgnpojenbefoiaaGreatXFa
namespace Gx
open Go Go.RowKit Gd
set_option linter.unusedVariables false
set_option linter.unusedSimpArgs false
theorem Uz {R A:Type} {b:Bool} {x:Option R} {y:Option A} {k:A→Option R} (h:x=y.bind k):(bif b then x else none)=(bif b then y else none).bind k:=by
 cases b
 ·rfl
 ·exact h
theorem We {T R A:Type} {x:Option T} {f:T→Option R} {g:T→Option A} {k:A→Option R} (h:∀t,f t=(g t).bind k):x.bind f=(x.bind g).bind k:=by
 cases x
 ·rfl
 ·exact h _
section
variable {R:Type} {Y:TX} {n:Nat}
theorem Qty {S:St} {cur:Vr} {op:Op} {k:AV→Option R}:tot Y S cur op k=(tot Y S cur op some).bind k:=by
 unfold tot
 split<;>rfl
theorem O8 {A:Type} {k:A→Option R}:∀{ps:List PS} {x:AV} {f:AV→Option R} {g:AV→Option A},(∀y,f y=(g y).bind k)→Ot ps x f=(Ot ps x g).bind k
 | [],x,f,g,h=>h x
 | .f i off::ps,x,f,g,h=>by
  simp only [Ot]
  split
  ·exact O8 h
  ·rfl
 | .i j sz::ps,x,f,g,h=>by
  simp only [Ot]
  split
  ·exact Uz (We fun _=>O8 h)
  ·rfl
theorem O9 {A:Type} {k:A→Option R} {M:List (Nat×Ob)}:∀{ps:List PS} {x v:AV} {f:AV→Option R} {g:AV→Option A},(∀y,f y=(g y).bind k)→Na M ps x v f=(Na M ps x v g).bind k
 | [],x,v,f,g,h=>by
  simp only [Na]
  exact Uz (h v)
 | .f i off::ps,x,v,f,g,h=>by
  simp only [Na]
  split
  ·refine O9 fun x1=>?_
   split
   ·exact h _
   ·rfl
  ·rfl
 | .i j sz::ps,x,v,f,g,h=>by
  simp only [Na]
  split
  ·refine Uz (We fun _=>O9 fun x1=>?_)
   split
   ·exact h _
   ·rfl
  ·rfl
theorem Qgb {S:St} {cur:Vr} {op:Op} {k:AV→Option R}:Lj Y S cur op k=(Lj Y S cur op some).bind k:=by
 unfold Lj
 repeat' (first | rfl | exact Qty | (refine Uz ?_) | (refine We fun _=>?_) | split)
theorem Qk2 {S:St} {cur:Vr} {op:Op} {k:AV→Option R}:Sz Y S cur op k=(Sz Y S cur op some).bind k:=by
 unfold Sz
 repeat' (first | rfl | (refine Uz ?_) | (refine We fun _=>?_) | (refine O8 fun _=>?_) | split)
theorem Tb {S:St} {cur:Vr} {op:Op} {k:AV→Option R}:A8 Y S cur op k=(A8 Y S cur op some).bind k:=by
 unfold A8
 split
 ·exact Qgb
 ·exact Qk2
theorem Qgc {A:Type} {S:St} {cur:Vr} {op:Op} {f:AV→Option R} {g:AV→Option A} {k:A→Option R} (h:∀y,f y=(g y).bind k):A8 Y S cur op f=(A8 Y S cur op g).bind k:=by
 rw [Tb (k:=f),Tb (k:=g),Option.bind_assoc]
 exact congrArg _ (funext h)
theorem Qgd {o:Oper} {S:XS} {k:XS→Option R}:Lm Y n o S k=(Lm Y n o S some).bind k:=by
 unfold Lm
 repeat' (first | rfl | (refine Uz ?_) | (refine We fun _=>?_) | (refine Qgc fun _=>?_) | split)
theorem Qk3 {o:Oper} {S:XS} {k:XS→Option R}:Ta Y n o S k=(Ta Y n o S some).bind k:=by
 unfold Ta
 repeat' (first | rfl | (refine Uz ?_) | (refine We fun _=>?_) | (refine O9 fun _=>?_) | split)
theorem Tc {o:Oper} {S:XS} {k:XS→Option R}:Mk Y n o S k=(Mk Y n o S some).bind k:=by
 unfold Mk
 split
 ·exact Qgd
 ·exact Qk3
theorem Qaz {c:Con} {o:Oper} {S:XS} {k:XS→Option R}:Zb n c o S k=(Zb n c o S some).bind k:=by
 unfold Zb Zb.callE Zb.callR
 repeat' (first | rfl | (refine Uz ?_) | (refine We fun _=>?_) | split)
theorem Qk4 {o:Oper} {S:XS} {k:XS→Option R}:C8 Y n o S k=(C8 Y n o S some).bind k:=by
 unfold C8
 repeat' (first | rfl | (refine Uz ?_) | (refine We fun _=>?_) | split)
theorem Qk5 {t:Nat} {want:Bool} {o:Oper} {S:XS} {k:XS→Option R}:Iq Y n t want o S k=(Iq Y n t want o S some).bind k:=by
 unfold Iq
 repeat' (first | rfl | (refine Uz ?_) | split)
theorem Qk6 {o:Oper} {S:XS} {k:XS→Option R}:B2 n o S k=(B2 n o S some).bind k:=by
 unfold B2
 repeat' (first | rfl | (refine Uz ?_) | split)
theorem Qk7 {ops:List Oper} {o:Oper} {S:XS} {k:XS→Option R}:Ir Y n ops o S k=(Ir Y n ops o S some).bind k:=by
 unfold Ir
 repeat' (first | rfl | exact Tc | exact Qk5 | split)
theorem Qk8 {ops:List Oper} {o:Oper} {S:XS} {k:XS→Option R}:stepL Y n ops o S k=(stepL Y n ops o S some).bind k:=by
 unfold stepL
 repeat' (first | rfl | exact Tc | exact Qk6 | split)
theorem Pa {st:{R:Type}→Oper→XS→(XS→Option R)→Option R} (hst:∀{R A:Type} (o:Oper) (S:XS) (f:XS→Option R) (g:XS→Option A) (k:A→Option R),(∀S',f S'=(g S').bind k)→st o S f=(st o S g).bind k) :
  ∀{A:Type} {k:A→Option R} {l:List Oper} {S:XS} {f:XS→Option R} {g:XS→Option A},(∀S',f S'=(g S').bind k)→Nc st l S f=(Nc st l S g).bind k
 | A,k,[],S,f,g,h=>h S
 | A,k,o::l,S,f,g,h=>by
  simp only [Nc]
  exact hst o S _ _ k fun S'=>Pa hst h
theorem Qtz {A:Type} {st:{R:Type}→Oper→XS→(XS→Option R)→Option R} {o:Oper} {S:XS} (h:∀{R:Type} {k:XS→Option R},st o S k=(st o S some).bind k) {f:XS→Option R} {g:XS→Option A} {k:A→Option R} (h2:∀S',f S'=(g S').bind k):st o S f=(st o S g).bind k:=by
 rw [h (k:=f),h (k:=g),Option.bind_assoc]
 exact congrArg _ (funext h2)
end
theorem Zt {Y:TX} {K:List Con} {n:Nat} {ops:List Oper}:∀{R A:Type} {h:Hn} {l:List Oper} {S:XS} {f:XS→Option R} {g:XS→Option A} {k:A→Option R},(∀S',f S'=(g S').bind k)→Y7 Y K n ops h l S f=(Y7 Y K n ops h l S g).bind k
 | R,A,.done,l,S,f,g,k,hk=>by
  simp only [Y7]
  split
  ·exact hk S
  ·rfl
 | R,A,.n m r,l,S,f,g,k,hk=>by
  simp only [Y7]
  exact Pa (st:=fun {R}=>Ir Y n ops) (fun o S f g k h=>Qtz (st:=fun {R}=>Ir Y n ops) Qk7 h) fun S'=>Zt hk
 | R,A,.nl m r,l,S,f,g,k,hk=>by
  simp only [Y7]
  exact Pa (st:=fun {R}=>stepL Y n ops) (fun o S f g k h=>Qtz (st:=fun {R}=>stepL Y n ops) Qk8 h) fun S'=>Zt hk
 | R,A,.call c r,l,S,f,g,k,hk=>by
  simp only [Y7]
  have hc:∀{con:Con} {o:Oper} {l':List Oper},Zb n con o S (fun S'=>Y7 Y K n ops r l' S' f)=(Zb n con o S (fun S'=>Y7 Y K n ops r l' S' g)).bind k:=fun {con o l'}=>Qtz (st:=fun {R}=>Zb n con) Qaz fun S'=>Zt hk
  repeat' (first | rfl | exact hc | split)
 | R,A,.br r,l,S,f,g,k,hk=>by
  simp only [Y7]
  have hc:∀{o:Oper} {l':List Oper},C8 Y n o S (fun S'=>Y7 Y K n ops r l' S' f)=(C8 Y n o S (fun S'=>Y7 Y K n ops r l' S' g)).bind k:=fun {o l'}=>Qtz (st:=fun {R}=>C8 Y n) Qk4 fun S'=>Zt hk
  repeat' (first | rfl | exact hc | split)
 | R,A,.fz id r,l,S,f,g,k,hk=>by
  simp only [Y7]
  exact Zt hk
 | R,A,.keep ts r,l,S,f,g,k,hk=>by
  simp only [Y7]
  exact Zt hk
 | R,A,.mt id path e r,l,S,f,g,k,hk=>by
  simp only [Y7]
  repeat' (first | rfl | exact Zt hk | (refine Uz ?_) | split)
 | R,A,.op src id d r,l,S,f,g,k,hk=>by
  simp only [Y7]
  repeat' (first | rfl | exact Zt hk | (refine Uz ?_) | split)
 | R,A,.fm id r,l,S,f,g,k,hk=>by
  simp only [Y7]
  repeat' (first | rfl | exact Zt hk | split)
 | R,A,.sp t m ks ms Γ a b r,l,S,f,g,k,hk=>by
  simp only [Y7]
  split
  ·exact Uz (We fun _=>Zt hk)
  ·rfl
 | R,A,.si t i a b,l,S,f,g,k,hk=>by
  simp only [Y7]
  split
  ·refine Uz ?_
   split
   ·exact Zt hk
   ·exact Zt hk
  ·rfl
 | R,A,.md _ _,l,S,f,g,k,hk=>by simp only [Y7]; rfl
 | R,A,.tl _,l,S,f,g,k,hk=>by simp only [Y7]; rfl
 | R,A,.dt _ _,l,S,f,g,k,hk=>by simp only [Y7]; rfl
 | R,A,.so _ _ _,l,S,f,g,k,hk=>by simp only [Y7]; rfl
theorem Pb {Y:TX} {K:List Con} {n:Nat} {ops:List Oper} {R:Type} {r:R} {h:Hn} {l:List Oper} {S:XS} {k:XS→Option R} (hs:Y7 Y K n ops h l S k=some r):∃S1,k S1=some r∧Y7 (R:=XS) Y K n ops h l S some=some S1:=by
 have e:=Zt (Y:=Y) (K:=K) (n:=n) (ops:=ops) (h:=h) (l:=l) (S:=S) (f:=k) (g:=some) (k:=k) fun S'=>rfl
 rw [e] at hs
 obtain ⟨S1,h1,h2⟩:=Option.bind_eq_some_iff.1 hs
 exact ⟨S1,h2,h1⟩
end Gx

/- States, and what becomes of them: new objects, other names. -/
namespace Gd
open Go Go.RowKit
section
variable {β:Nat→Nat} {X:Cx} {G:GL} {D:List DF} {H:HL} {O:List TL} {a:Act} {w w':World}
def U0 (t t':TL):Prop:=(∀g,t'.blks g↔t.blks g)∧(∀b o,t'.cov b o↔t.cov b o)∧∀ok w,t.p ok w→t'.p ok w
inductive V2:List TL→List TL→Prop
 | nil:V2 [] []
 | cons {t t':TL} {l l':List TL} (h:U0 t t') (r:V2 l l'):V2 (t::l) (t'::l')
theorem U0.refl (t:TL):U0 t t:=⟨fun _=>Iff.rfl,fun _ _=>Iff.rfl,fun _ _ h=>h⟩
theorem V2.refl:∀l:List TL,V2 l l
 | []=>.nil
 | t::l=>.cons (U0.refl t) (V2.refl l)
theorem V2.mem {l l':List TL} (h:V2 l l'):∀t'∈l',∃t∈l,U0 t t':=by
 induction h with
 | nil=>simp
 | cons h r ih =>
  intro u hu
  rcases List.mem_cons.1 hu with rfl | hu
  ·exact ⟨_,.head _,h⟩
  ·obtain ⟨t,ht,hs⟩:=ih u hu; exact ⟨t,.tail _ ht,hs⟩
theorem V2.mem' {l l':List TL} (h:V2 l l'):∀t∈l,∃t'∈l',U0 t t':=by
 induction h with
 | nil=>simp
 | cons h r ih =>
  intro u hu
  rcases List.mem_cons.1 hu with rfl | hu
  ·exact ⟨_,.head _,h⟩
  ·obtain ⟨t,ht,hs⟩:=ih u hu; exact ⟨t,.tail _ ht,hs⟩
theorem V2.pw {l l':List TL} (h:V2 l l') (hp:l.Pairwise fun s t=>∀g,s.blks g→¬ t.blks g):l'.Pairwise fun s t=>∀g,s.blks g→¬ t.blks g:=by
 induction h with
 | nil=>exact .nil
 | cons h r ih =>
  have:=List.pairwise_cons.1 hp
  refine List.pairwise_cons.2 ⟨fun u hu g hg hg2=>?_,ih this.2⟩
  obtain ⟨t,ht,hs⟩:=r.mem u hu
  exact this.1 t ht g ((h.1 g).1 hg) ((hs.1 g).1 hg2)
theorem V2.append {l l' m m':List TL} (h:V2 l l') (k:V2 m m'):V2 (l++m) (l'++m'):=by
 induction h with
 | nil=>exact k
 | cons h _ ih=>exact .cons h ih
theorem V2.ok {l l':List TL} (h:V2 l l') {ok0:Ok} {B:Nat}:∀b o,Q5 ok0 B β H l w b o→Q5 ok0 B β H l' w b o:=by
 rintro b o ⟨h1,h2,h3,h4⟩
 refine ⟨h1,h2,h3,fun u hu hc=>?_⟩
 obtain ⟨t,ht,hs⟩:=h.mem u hu
 exact h4 t ht ((hs.2.1 b o).1 hc)
theorem Sb.simO {O':List TL} (h:Sb β X G D H O a w) (hs:V2 O O'):Sb β X G D H O' a w :=
 { sz:=h.sz,df:=h.df,fr:=h.fr,pn:=h.pn,tm:=h.tm,bel:=h.bel,dat:=h.dat.weak hs.ok,obj:=h.obj,own:=fun u hu=>let ⟨t,ht,hst⟩:=hs.mem u hu; ⟨u.weak (hst.2.2 _ _ (h.own t ht).1) hs.ok,fun g hg=>(h.own t ht).2 g ((hst.1 g).1 hg)⟩,dHH:=h.dHH,dHO:=fun p hp u hu hg=>let ⟨t,ht,hst⟩:=hs.mem u hu; h.dHO p hp t ht ((hst.1 _).1 hg),dOO:=hs.pw h.dOO }
theorem Sb.subO {O':List TL} (h:Sb β X G D H O a w) (hs:O'.Sublist O):Sb β X G D H O' a w:=by
 have hok:∀b o,Q5 X.ok X.w.heap.size β H O w b o→Q5 X.ok X.w.heap.size β H O' w b o:=fun b o ⟨h1,h2,h3,h4⟩=>⟨h1,h2,h3,fun u hu=>h4 u (hs.subset hu)⟩
 exact { sz:=h.sz,df:=h.df,fr:=h.fr,pn:=h.pn,tm:=h.tm,bel:=h.bel,dat:=h.dat.weak hok,obj:=h.obj,own:=fun u hu=>⟨u.weak (h.own u (hs.subset hu)).1 hok,(h.own u (hs.subset hu)).2⟩,dHH:=h.dHH,dHO:=fun p hp u hu=>h.dHO p hp u (hs.subset hu),dOO:=h.dOO.sublist hs }
theorem Hg {O1 O1' O2:List TL} {L:List Nat} (h:Sb β X G D [] (O1++O2) a w) (_:w.heap.size≤w'.heap.size) (hL:∀g∈L,∃t∈O1,t.blks g) :
  ∀b o,Q5 (okL L (Q5 X.ok X.w.heap.size β [] (O1++O2) w)) w.heap.size β [] O1' w' b o→Q5 X.ok X.w.heap.size β [] (O1'++O2) w' b o:=by
 rintro b o ⟨h1,h2,_,h4⟩
 have hO2:∀u∈O2,¬ u.cov b o→∀v∈O1'++O2,v=u→¬ v.cov b o:=fun u _ hn v _ e=>e▸hn
 have fin:(X.ok b o∨X.w.heap.size≤b)→(∀u∈O2,¬ u.cov b o)→Q5 X.ok X.w.heap.size β [] (O1'++O2) w' b o:=by
  intro h5 h6
  refine ⟨h5,h2,by simp,fun u hu=>?_⟩
  rcases List.mem_append.1 hu with hu | hu
  ·exact h4 u hu
  ·exact h6 u hu
 rcases h1 with (h1 | h1) | h1
 ·exact fin h1.1 fun u hu=>h1.2.2.2 u (by simp [hu])
 ·obtain ⟨t,ht,hg⟩:=hL b h1
  have hm:=(h.own t (by simp [ht])).2 b hg
  refine fin (X.mine_ok hm o) fun u hu hc=>?_
  exact (List.pairwise_append.1 h.dOO).2.2 t ht u hu b hg (u.cb hc)
 ·refine fin (.inr (Nat.le_trans h.bel.size h1)) fun u hu hc=>?_
  have:=h.olt (t:=u) (by simp [hu]) (u.cb hc)
  omega
theorem Sb.callO {O1 O1' O2:List TL} {L:List Nat} (h:Sb β X G D [] (O1++O2) a w) (hb:Vq L w.heap.size w w') (hL:∀g∈L,∃t∈O1,t.blks g) (hcov:∀t∈O1,∀b o,t.blks b→t.cov b o)
  (hp:∀t∈O1',t.p (Q5 (okL L (Q5 X.ok X.w.heap.size β [] (O1++O2) w)) w.heap.size β [] O1' w') w'∧∀g,t.blks g→w.heap.size≤g∨g∈L) (hd:O1'.Pairwise fun s t=>∀g,s.blks g→¬ t.blks g) :
  Sb β X G D [] (O1'++O2) a w':=by
 have hpw:=List.pairwise_append.1 h.dOO
 have hsame:∀b,b<w.heap.size→(∀t∈O1,¬ t.blks b)→w'.heap[b]?=w.heap[b]?:=fun b hb' hn=>hb.block b hb' fun hm=>by obtain ⟨t,ht,hg⟩:=hL b hm; exact hn t ht hg
 have hevo:Evo (Q5 X.ok X.w.heap.size β [] (O1++O2) w) w w':=Evo.of_blocks hb.size fun b o hk=>hsame b hk.2.1 fun t ht hg=>hk.2.2.2 t (by simp [ht]) (hcov t ht b o hg)
 have hok:∀b o,Q5 X.ok X.w.heap.size β [] (O1++O2) w b o→Q5 X.ok X.w.heap.size β [] (O1'++O2) w' b o:=by
  rintro b o ⟨h1,h2,h3,h4⟩
  refine ⟨h1,Nat.lt_of_lt_of_le h2 hb.size,h3,fun u hu hc=>?_⟩
  rcases List.mem_append.1 hu with hu | hu
  ·rcases (hp u hu).2 b (u.cb hc) with hg | hg
   ·omega
   ·obtain ⟨t,ht,hg⟩:=hL b hg
    exact h4 t (by simp [ht]) (hcov t ht b o hg)
  ·exact h4 u (by simp [hu]) hc
 have hmine:∀t∈O1',∀g,t.blks g→X.mine g:=by
  intro t ht g hg
  rcases (hp t ht).2 g hg with h1 | h1
  ·exact .inl (Nat.le_trans h.bel.size h1)
  ·obtain ⟨u,hu,hg⟩:=hL g h1
   exact (h.own u (by simp [hu])).2 g hg
 have hO2:∀u∈O2,∀g,u.blks g→w'.heap[g]?=w.heap[g]?:=fun u hu g hg=>hsame g (h.olt (by simp [hu]) hg) fun t ht hg2=>hpw.2.2 t ht u hu g hg2 hg
 refine { sz:=h.sz,df:=h.df,fr:=h.fr,pn:=h.pn,tm:=h.tm,bel:=?_,dat:=(h.dat.evo hevo).weak hok,obj:=by simp,own:=?_,dHH:=by simp,dHO:=by simp,dOO:=?_ }
 ·refine h.bel.trans ⟨hb.os,hb.tape,hb.output,hb.size,fun k hk hn=>hsame k (Nat.lt_of_lt_of_le hk h.bel.size) fun t ht hg=>?_⟩
  exact ((h.own t (by simp [ht])).2 k hg).elim (fun h=>by omega) hn
 ·intro u hu
  rcases List.mem_append.1 hu with hu | hu
  ·exact ⟨u.weak (hp u hu).1 (Hg h hb.size hL),hmine u hu⟩
  ·have:=h.own u (by simp [hu]:u∈O1++O2)
   exact ⟨u.weak (u.keep this.1 (hO2 u hu) hevo) hok,this.2⟩
 ·refine List.pairwise_append.2 ⟨hd,hpw.2.1,fun t ht u hu g hg hg2=>?_⟩
  rcases (hp t ht).2 g hg with h1 | h1
  ·have:=h.olt (t:=u) (by simp [hu]) hg2; omega
  ·obtain ⟨v,hv,hg3⟩:=hL g h1
   exact hpw.2.2 v hv u hu g hg3 hg2
end
end Gd
namespace Gx
open Go Go.RowKit Gd
set_option linter.unusedVariables false
set_option linter.unusedSimpArgs false
def upd {α:Type} (f:Nat→α) (d:Nat) (v:α):Nat→α:=fun i=>if i=d then v else f i
theorem Jn {α:Type} (f:Nat→α) (d:Nat) (v:α):upd f d v d=v:=by simp [upd]
theorem Uv {α:Type} (f:Nat→α) {d i:Nat} (v:α) (h:i≠d):upd f d v i=f i:=by simp [upd,h]
def Dc (d:Nat) (β β':Nat→Nat) (ρ ρ':Nat→Value):Prop:=∀i,i≠d→β' i=β i∧ρ' i=ρ i
theorem Kj (d:Nat) (β:Nat→Nat) (ρ:Nat→Value) (g:Nat) (v:Value):Dc d β (upd β d g) ρ (upd ρ d v):=fun i h=>⟨Uv _ _ h,Uv _ _ h⟩
theorem neB {a b:Nat} (h:(!Nat.beq a b)=true):a≠b:=by
 intro e; subst e; simp [Nat.beq_refl] at h
section
variable {β β':Nat→Nat} {ρ ρ':Nat→Value} {ok:Ok} {w:World} {d:Nat}
theorem Zl (ha:Dc d β β' ρ ρ'):∀{m:Bool} {x:AV} {cs:List Value},V1 d x=true→cr β ρ ok w m x cs→cr β' ρ' ok w m x cs
 | m,.d t x,cs,_,h=>by cases m<;>exact h
 | m,.p id path,cs,hn,h=>by
  have:=(ha id (neB (by simpa [V1] using hn))).1
  cases m<;>(simp only [cr] at h ⊢; rw [this]; exact h)
 | m,.e id path,cs,hn,h=>by
  have:=(ha id (neB (by simpa [V1] using hn))).2
  cases m<;>(simp only [cr] at h ⊢; rw [this]; exact h)
 | m,.s id,cs,hn,h=>by
  have:=(ha id (neB (by simpa [V1] using hn))).2
  cases m<;>(simp only [cr] at h ⊢; rw [this]; exact h)
 | m,.m id,cs,hn,h=>by
  have:=(ha id (neB (by simpa [V1] using hn))).1
  cases m<;>(simp only [cr] at h ⊢; rw [this]; exact h)
 | m,.b id,cs,hn,h=>by
  have:=(ha id (neB (by simpa [V1] using hn))).1
  cases m<;>(simp only [cr] at h ⊢; rw [this]; exact h)
 | m,.w id _ _,cs,hn,h=>by
  have:=(ha id (neB (by simpa [V1] using hn))).1
  cases m<;>(simp only [cr] at h ⊢; rw [this]; exact h)
 | m,.a t x,cs,_,h=>by cases m<;>exact h
 | m,.z,cs,_,h=>by cases m<;>exact h
 | m,.ns,cs,_,h=>by cases m<;>exact h
 | m,.np,cs,_,h=>by cases m<;>exact h
 | m,.nm,cs,_,h=>by cases m<;>exact h
 | m,.nf,cs,_,h=>by cases m<;>exact h
 | m,.f fn caps,cs,hn,h=>by cases m<;>exact let ⟨vs,h1,h2⟩:=h; ⟨vs,h1,Zl ha (by simpa [V1] using hn) h2⟩
 | m,.ag l,cs,hn,h=>by cases m<;>exact Zl ha (m:=false) (x:=l) (by simpa [V1] using hn) h
 | m,.tp l,cs,hn,h=>by cases m<;>exact let ⟨vs,h1,h2⟩:=h; ⟨vs,h1,Zl ha (by simpa [V1] using hn) h2⟩
 | m,.nil,cs,_,h=>by cases m<;>exact h
 | true,.cons x r,cs,hn,h=>by
  simp only [V1,Bool.and_eq_true] at hn
  exact let ⟨c1,vs,h1,h2,h3⟩:=h; ⟨c1,vs,h1,Zl ha hn.1 h2,Zl ha hn.2 h3⟩
 | false,.cons x r,cs,hn,h=>by
  simp only [V1,Bool.and_eq_true] at hn
  exact let ⟨c1,vs,h1,h2,h3⟩:=h; ⟨c1,vs,h1,Zl ha hn.1 h2,Zl ha hn.2 h3⟩
def Q9p (d:Nat):Ob→Prop
 | .var _ c=>V1 d c=true
 | .mapT _ _ _ _ _ _ (some q)=>q.2≠d
 | .mapO _ _ (some q)=>q.2≠d
 | .mapE _ _ _ _ j=>j≠d
 | _=>True
theorem U8:∀{M:List (Nat×Ob)},Qv d M=true→∀q∈M,q.1≠d∧Q9p d q.2
 | [],_,q,hq=>by cases hq
 | (k,o)::l,h,q,hq=>by
  cases o with
  | var t c =>
   simp only [Qv,Bool.and_eq_true] at h
   rcases List.mem_cons.1 hq with rfl | hq
   ·exact ⟨neB h.1.1,h.1.2⟩
   ·exact U8 h.2 q hq
  | mapT k1 v path e u xs hole =>
   cases hole with
   | none =>
    simp only [Qv,Bool.and_eq_true] at h
    rcases List.mem_cons.1 hq with rfl | hq
    ·exact ⟨neB h.1,trivial⟩
    ·exact U8 h.2 q hq
   | some q0 =>
    simp only [Qv,Bool.and_eq_true] at h
    rcases List.mem_cons.1 hq with rfl | hq
    ·exact ⟨neB h.1.1,neB h.1.2⟩
    ·exact U8 h.2 q hq
  | mapE k1 v xs key j =>
   simp only [Qv,Bool.and_eq_true] at h
   rcases List.mem_cons.1 hq with rfl | hq
   ·exact ⟨neB h.1.1,neB h.1.2⟩
   ·exact U8 h.2 q hq
  | mapO k9 xs9 hole =>
   cases hole with
   | none =>
    simp only [Qv,Mj,Bool.and_true,Bool.and_eq_true] at h
    rcases List.mem_cons.1 hq with rfl | hq
    ·exact ⟨neB h.1,trivial⟩
    ·exact U8 h.2 q hq
   | some q0 =>
    simp only [Qv,Mj,Bool.and_true,Bool.and_eq_true] at h
    rcases List.mem_cons.1 hq with rfl | hq
    ·exact ⟨neB h.1.1,neB h.1.2⟩
    ·exact U8 h.2 q hq
  | _ =>
   simp only [Qv,Bool.and_eq_true] at h
   rcases List.mem_cons.1 hq with rfl | hq
   ·exact ⟨neB h.1,trivial⟩
   ·exact U8 h.2 q hq
theorem W7 (ha:Dc d β β' ρ ρ'):∀{M:List (Nat×Ob)},Qv d M=true→V2 (Qc β ρ M) (Qc β' ρ' M)
 | [],_=>.nil
 | (k,o)::l,h=>by
  have hq:=U8 h (k,o) (.head _)
  have hl:Qv d l=true:=by
   cases o with
   | mapT k1 v path e u xs hole=>cases hole<;>simp only [Qv,Bool.and_eq_true] at h<;>exact h.2
   | mapO k9 xs9 hole=>cases hole<;>simp only [Qv,Mj,Bool.and_true,Bool.and_eq_true] at h<;>exact h.2
   | _=>simp only [Qv,Bool.and_eq_true] at h; exact h.2
  refine .cons ?_ (W7 ha hl)
  obtain ⟨h1,h2⟩:=ha k hq.1
  cases o with
  | var t c =>
   refine ⟨fun g=>by simp only [Qp,Xf]; rw [h1],fun b o=>by simp only [Qp,Xf]; rw [h1],fun ok w hp=>?_⟩
   obtain ⟨cs,hh,hc⟩:=hp
   exact ⟨cs,by rw [h1]; exact hh,Zl ha hq.2 hc⟩
  | row e t xs=>simp only [Qp,h2]; exact U0.refl _
  | tail e t xs=>simp only [Qp,h2]; exact U0.refl _
  | map k v xs=>simp only [Qp,h1]; exact U0.refl _
  | mapT k1 v path e u xs hole =>
   have hv:A5 ρ' hole=A5 ρ hole:=by
    cases hole with
    | none=>rfl
    | some q=>exact (ha q.2 hq.2).2
   simp only [Qp,h1,h2,hv]; exact U0.refl _
  | mapE k1 v xs key j =>
   simp only [Qp,h1,(ha j hq.2).1]; exact U0.refl _
  | mapO k9 xs9 hole =>
   have hv:A6 β' hole=A6 β hole:=by
    cases hole with
    | none=>rfl
    | some q=>simp only [A6,Option.map_some,(ha q.2 hq.2).1]
   simp only [Qp,h1,hv]; exact U0.refl _
theorem Qt0 {a:Act} (ha:Dc d β β' ρ ρ') {e:En} (hn:V1 d e.av=true) (h:(enD β ρ a e).p ok w):(enD β' ρ' a e).p ok w :=
 ⟨fun hc=>let ⟨cs,h1,h2⟩:=h.1 hc; ⟨cs,h1,Zl ha hn h2⟩,h.2⟩
theorem Dt {l:List En} {e:En} (h:e∈Y6 d l):e∈l∧V1 d e.av=true:=by
 induction l with
 | nil=>cases h
 | cons x l ih =>
  simp only [Y6] at h
  cases hb:V1 d x.av with
  | true =>
   rw [hb] at h
   rcases List.mem_cons.1 h with rfl | h
   ·exact ⟨.head _,hb⟩
   ·exact ⟨.tail _ (ih h).1,(ih h).2⟩
  | false=>rw [hb] at h; exact ⟨.tail _ (ih h).1,(ih h).2⟩
theorem H2 {l:List En} (h:B1 d l=true):∀e∈l,V1 d e.av=true:=by
 induction l with
 | nil=>intro e he; cases he
 | cons x l ih =>
  simp only [B1,Bool.and_eq_true] at h
  intro e he
  rcases List.mem_cons.1 he with rfl | he
  ·exact h.1
  ·exact ih h.2 e he
end
section
variable {X:Cx} {β β':Nat→Nat} {ρ ρ':Nat→Value} {S:St} {a:Act} {w w':World} {d:Nat}
theorem Rel.off (h:Rel X β ρ S a w) (ha:Dc d β β' ρ ρ') (hf:Qv d S.mem=true) {env':List En} (he:∀e∈env',e∈S.env∧V1 d e.av=true):Rel X β' ρ' ⟨env',S.mem⟩ a w:=by
 have h1:=Sb.simO h (W7 ha hf)
 refine { h1 with dat:=Jf.2 fun x hx=>?_ }
 obtain ⟨e,hm,rfl⟩:=List.mem_map.1 hx
 obtain ⟨h2,h3⟩:=he e hm
 exact Qt0 ha h3 ((enD β ρ a e).weak (h.en h2) (W7 ha hf).ok)
theorem Rel.ofSb {G:GL} {D:List DF} {O:List TL} (h:Sb (fun _=>0) X G D [] O a w) {mem:List (Nat×Ob)} (hO:O=Qc β ρ mem) {env:List En}
  (he:∀e∈env,(enD β ρ a e).p (okR X β ρ mem w) w):Rel X β ρ ⟨env,mem⟩ a w:=by
 subst hO
 exact { h with tm:=by simp,dat:=Jf.2 fun x hx=>by obtain ⟨e,hm,rfl⟩:=List.mem_map.1 hx; exact he e hm }
theorem Rel.alloc (h:Rel X β ρ S a w) (ha:Dc d β β' ρ ρ') (hf:Qv d S.mem=true) {env':List En} (he:∀e∈env',e∈S.env∧V1 d e.av=true) (hb:Below w.heap.size w w') {o:Ob}
  (ht:∀g,(Qp β' ρ' d o).blks g→w.heap.size≤g) (hq:(Qp β' ρ' d o).p (okR X β' ρ' ((d,o)::S.mem) w') w'):Rel X β' ρ' ⟨env',(d,o)::S.mem⟩ a w' :=
 Sb.allocTL (h.off ha hf he) hb ht hq
end
end Gx

/- States by their shapes. -/
namespace Gd
open Go Go.RowKit
section
variable {β:Nat→Nat} {X:Cx} {G:GL} {D:List DF} {H:HL} {O:List TL} {a:Act} {w w':World}
theorem Sb.remake {O':List TL} (h:Sb β X G D H O a w)
  (hp:∀t'∈O',(∃t∈O,(∀g,t'.blks g→t.blks g)∧(∀b o,t'.cov b o→t.cov b o)∧t'.p (Q5 X.ok X.w.heap.size β H O w) w)∨((∀g,¬ t'.blks g)∧∀ok w,t'.p ok w))
  (hd:O'.Pairwise fun s t=>∀g,s.blks g→¬ t.blks g):Sb β X G D H O' a w:=by
 have hok:∀b o,Q5 X.ok X.w.heap.size β H O w b o→Q5 X.ok X.w.heap.size β H O' w b o:=by
  rintro b o ⟨h1,h2,h3,h4⟩
  refine ⟨h1,h2,h3,fun u hu hc=>?_⟩
  rcases hp u hu with ⟨t,ht,_,h6,_⟩ | ⟨h5,_⟩
  ·exact h4 t ht (h6 b o hc)
  ·exact h5 b (u.cb hc)
 refine { sz:=h.sz,df:=h.df,fr:=h.fr,pn:=h.pn,tm:=h.tm,bel:=h.bel,dat:=h.dat.weak hok,obj:=h.obj,own:=fun u hu=>?_,dHH:=h.dHH,dHO:=fun p hp' u hu hg=>?_,dOO:=hd }
 ·rcases hp u hu with ⟨t,ht,h5,_,h7⟩ | ⟨h5,h6⟩
  ·exact ⟨u.weak h7 hok,fun g hg=>(h.own t ht).2 g (h5 g hg)⟩
  ·exact ⟨h6 _ _,fun g hg=>absurd hg (h5 g)⟩
 ·rcases hp u hu with ⟨t,ht,h5,_⟩ | ⟨h5,_⟩
  ·exact h.dHO p hp' t ht (h5 _ hg)
  ·exact h5 _ hg
end
end Gd
namespace Gx
open Go Go.RowKit Gd
set_option linter.unusedVariables false
set_option linter.unusedSimpArgs false
section
variable {X:Cx} {β:Nat→Nat} {ρ:Nat→Value} {S:St} {a:Act} {w w':World}
theorem Fv:∀{M:List (Nat×Ob)} {c:Nat} {o:Ob},Qb M c=some o→(c,o)∈M
 | q::l,c,o,h=>by
  obtain ⟨l1,l2,h1,_⟩:=Jl h
  rw [h1]; simp
theorem Rel.disj (h:Rel X β ρ S a w) {c c':Nat} {o o':Ob} (h1:Qb S.mem c=some o) (h2:Qb S.mem c'=some o') (hne:c≠c'):∀g,(Qp β ρ c o).blks g→¬ (Qp β ρ c' o').blks g:=by
 obtain ⟨l1,l2,hl,_⟩:=Jl h1
 have hm:=Fv h2
 have hp:((l1++(c,o)::l2).map fun q=>Qp β ρ q.1 q.2).Pairwise fun s t=>∀g,s.blks g→¬ t.blks g:=by rw [←hl]; exact h.dOO
 rw [List.map_append,List.map_cons] at hp
 have hp1:=List.pairwise_append.1 hp
 have hp2:=List.pairwise_cons.1 hp1.2.1
 rw [hl] at hm
 intro g hg hg2
 rcases List.mem_append.1 hm with hm | hm
 ·exact hp1.2.2 _ (List.mem_map.2 ⟨_,hm,rfl⟩) _ (.head _) g hg2 hg
 ·rcases List.mem_cons.1 hm with hm | hm
  ·injection hm with e _; exact hne e.symm
  ·exact hp2.1 _ (List.mem_map.2 ⟨_,hm,rfl⟩) g hg hg2
theorem Sb.toTail {β:Nat→Nat} {G:GL} {D:List DF} {O:List TL} {τ:Type} {r:RT τ} {xs:List τ} {A:Option Addr} {c e:Nat} (h:Sb β X G D [] (ml (.slice A xs.length c) e r xs::O) a w) (hs:Nat.ble 1 r.size=true) :
  Sb β X G D [] (Ui (.slice A xs.length c) e r xs::O) a w:=by
 have h2:=h.freeze rfl hs
 have hiv:isV (rSl r) _ w xs (.slice A xs.length c):=h2.d 0 rfl
 have h3:={ h2 with dat:=h2.dat.2 }
 refine Sb.remake h3 (fun u hu=>?_) ?_
 ·rcases List.mem_cons.1 hu with rfl | hu
  ·exact .inl ⟨_,.head _,fun g hg=>hg,fun b o hc=>hc,hiv,(h3.own _ (.head _)).1⟩
  ·exact .inl ⟨u,.tail _ hu,fun _ hg=>hg,fun _ _ hc=>hc,(h3.own u (.tail _ hu)).1⟩
 ·have:=List.pairwise_cons.1 h3.dOO
  exact List.pairwise_cons.2 ⟨fun u hu g hg=>this.1 u hu g hg,this.2⟩
theorem Rel.freeze1 {env:List En} {l1 l2:List (Nat×Ob)} {id:Nat} {e:TypeId} {t:Ty} {xs:List t.De} (h:Rel X β ρ ⟨env,l1++(id,.row e t xs)::l2⟩ a w) (hs:Nat.ble 1 t.size=true) :
  Rel X β ρ ⟨env,l1++(id,.tail e t xs)::l2⟩ a w:=by
 unfold Rel at h ⊢
 simp only [Qc,List.map_append,List.map_cons] at h ⊢
 have h1:=h.perm (O':=Qp β ρ id (.row e t xs)::(l1.map (fun q=>Qp β ρ q.1 q.2)++l2.map (fun q=>Qp β ρ q.1 q.2))) List.perm_middle
 obtain ⟨⟨hl,cs,hown,hr⟩,_⟩:=h1.own _ (.head _)
 obtain ⟨A,c,hv⟩:∃A c,ρ id=.slice A xs.length c:=by
  rcases hown.2 with ⟨hv,h0⟩ | ⟨g,cap,cur,fz,hv,_⟩
  ·exact ⟨none,0,by rw [hv,←hl,h0]⟩
  ·exact ⟨_,cap,by rw [hv,hl]⟩
 have hO:Qp β ρ id (.row e t xs)=ml (.slice A xs.length c) e (rt t) xs:=by simp only [Qp,hv]
 rw [hO] at h1
 have h2:=h1.freeze rfl (by rw [Jh]; exact hs)
 have hiv:isV (rSl (rt t)) _ w xs (.slice A xs.length c):=h2.d 0 rfl
 have h3:={ h2 with dat:=h2.dat.2 }
 have h4:Sb (fun _=>0) X [] (List.map (enD β ρ a) env) [] (Qp β ρ id (.tail e t xs)::(l1.map (fun q=>Qp β ρ q.1 q.2)++l2.map (fun q=>Qp β ρ q.1 q.2))) a w:=by
  refine Sb.remake h3 (fun u hu=>?_) ?_
  ·rcases List.mem_cons.1 hu with rfl | hu
   ·refine .inl ⟨_,.head _,fun g hg=>?_,fun b o hc=>?_,?_⟩
    ·have hg':(ρ id).ownBlock=some g:=hg
     rw [hv] at hg'; exact hg'
    ·have hc':(ρ id).ownBlock=some b∧Uq (ρ id)*(rt t).size≤o:=hc
     rw [hv] at hc'; exact hc'
    ·simp only [Qp,Ui,hv]
     exact ⟨hiv,(h3.own _ (.head _)).1⟩
   ·exact .inl ⟨u,.tail _ hu,fun _ hg=>hg,fun _ _ hc=>hc,(h3.own u (.tail _ hu)).1⟩
  ·have:=List.pairwise_cons.1 h3.dOO
   refine List.pairwise_cons.2 ⟨fun u hu g hg=>this.1 u hu g ?_,this.2⟩
   have hg':(ρ id).ownBlock=some g:=hg
   rw [hv] at hg'; exact hg'
 exact h4.perm List.perm_middle.symm
theorem Rel.freeze:∀(l:List (Nat×Ob)) {l0 F:List (Nat×Ob)} {env:List En} {ks:List Nat},Rel X β ρ ⟨env,l0++l++F⟩ a w→Rel X β ρ ⟨env,l0++Va ks l++F⟩ a w
 | [],l0,F,env,ks,h=>h
 | (id,.row e t xs)::l,l0,F,env,ks,h=>by
  simp only [Va]
  cases hb:(J9 ks id&&Nat.ble 1 t.size) with
  | true =>
   simp only [cond_true]
   simp only [Bool.and_eq_true] at hb
   have h1:Rel X β ρ ⟨env,l0++(id,.row e t xs)::(l++F)⟩ a w:=by simpa using h
   have h2:=h1.freeze1 hb.2
   have h3:=Rel.freeze l (l0:=l0++[(id,.tail e t xs)]) (F:=F) (ks:=ks) (by simpa using h2)
   simpa using h3
  | false =>
   simp only [cond_false]
   have h3:=Rel.freeze l (l0:=l0++[(id,.row e t xs)]) (F:=F) (ks:=ks) (by simpa using h)
   simpa using h3
 | (id,.var t c)::l,l0,F,env,ks,h=>by
  have h3:=Rel.freeze l (l0:=l0++[(id,.var t c)]) (F:=F) (ks:=ks) (by simpa using h)
  simpa [Va] using h3
 | (id,.tail e t xs)::l,l0,F,env,ks,h=>by
  have h3:=Rel.freeze l (l0:=l0++[(id,.tail e t xs)]) (F:=F) (ks:=ks) (by simpa using h)
  simpa [Va] using h3
 | (id,.map k v xs)::l,l0,F,env,ks,h=>by
  have h3:=Rel.freeze l (l0:=l0++[(id,.map k v xs)]) (F:=F) (ks:=ks) (by simpa using h)
  simpa [Va] using h3
 | (id,.mapT k v path e u xs hole)::l,l0,F,env,ks,h=>by
  have h3:=Rel.freeze l (l0:=l0++[(id,.mapT k v path e u xs hole)]) (F:=F) (ks:=ks) (by simpa using h)
  simpa [Va] using h3
 | (id,.mapO k xs last)::l,l0,F,env,ks,h=>by
  have h3:=Rel.freeze l (l0:=l0++[(id,.mapO k xs last)]) (F:=F) (ks:=ks) (by simpa using h)
  simpa [Va] using h3
 | (id,.mapE k v xs key j)::l,l0,F,env,ks,h=>by
  have h3:=Rel.freeze l (l0:=l0++[(id,.mapE k v xs key j)]) (F:=F) (ks:=ks) (by simpa using h)
  simpa [Va] using h3
theorem Pc:∀{ts:List Ty} {l:List DV} {x:Tup ts},ofL ts l=some x→toL ts x=l
 | [],l,x,h=>by
  cases l with
  | nil=>rfl
  | cons _ _=>simp [ofL] at h
 | [t],l,x,h=>by
  match l,h with
  | [v],h =>
   obtain ⟨e,hx⟩:=Ty.cast_ok (by simpa [ofL] using h)
   obtain ⟨u,y⟩:=v
   simp only at e
   subst e
   simp only at hx
   subst hx
   rfl
  | [],h=>simp [ofL] at h
  | _::_::_,h=>simp [ofL] at h
 | t::u::ts,l,x,h=>by
  match l,h with
  | [],h=>simp [ofL] at h
  | v::vs,h =>
   simp only [ofL] at h
   split at h
   ·rename_i a b ha hb
    simp at h; subst h
    obtain ⟨e,hx⟩:=Ty.cast_ok ha
    obtain ⟨s,y⟩:=v
    simp only at e
    subst e
    simp only at hx
    subst hx
    have:=Pc hb
    simp only [toL,this]
   ·cases h
def Xd (ri:List (Nat×Nat)) (β:Nat→Nat):Nat→Nat:=fun i=>match Jo ri i with
 | some c=>β c
 | none=>β i
def K3 (ri:List (Nat×Nat)) (pr:List Nat) (ρ:Nat→Value):Nat→Value:=fun i=>match Jo ri i with
 | some c=>ρ c
 | none=>bif J9 pr i then ρ i else .slice none 0 0
theorem Cp {ri:List (Nat×Nat)} {i c:Nat} (h:Qf4 ri i c=true):Jo ri i=some c:=by
 unfold Qf4 at h
 split at h
 ·rename_i j hj; rw [hj,Nat.eq_of_beq_eq_true h]
 ·cases h
theorem Cq:∀{p q:List PS},Ou p q=true→p=q
 | [],[],_=>rfl
 | a::l,b::m,h=>by
  simp only [Ou,Bool.and_eq_true] at h
  have h2:=Cq h.2
  have h1:=h.1
  cases a<;>cases b<;>simp only [PS.beq,Bool.and_eq_true] at h1<;>first | (cases h1; done) | skip
  rw [Nat.eq_of_beq_eq_true h1.1,Nat.eq_of_beq_eq_true h1.2,h2]
 | [],_::_,h=>by cases h
 | _::_,[],h=>by cases h
theorem Cr {α:Type} {x:Option α} (h:isNone x=true):x=none:=by cases x with
 | none=>rfl
 | some _=>cases h
variable {ok:Ok} {M:List (Nat×Ob)} {ri:List (Nat×Nat)} {pr:List Nat}
theorem Gg (hM:∀id o,Qb M id=some o→(Qp β ρ id o).p ok w) :
  ∀{sk:Sk} {m:Bool} {x:AV} {cs:List Value} {l:List DV} (rest:List DV),V9 M ri pr sk x=some l→cr β ρ ok w m x cs→(m=true→sk.isL=true) →
   ∃y,Hx sk (l++rest)=(y,rest)∧cr (Xd ri β) (K3 ri pr ρ) ok w m y cs∧y.isAgg=x.isAgg
 | .d t,true,x,cs,l,rest,h,hc,hm=>by cases hm rfl
 | .d t,false,x,cs,l,rest,h,hc,hm=>by
  simp only [V9] at h
  split at h
  ·rename_i y hy
   obtain ⟨hb,h⟩:=bvT h
   simp at h; subst h
   exact ⟨.d t y,rfl,V8 hM hy hc,bEq hb⟩
  ·cases h
 | .p id path,true,x,cs,l,rest,h,hc,hm=>by cases hm rfl
 | .p id path,false,x,cs,l,rest,h,hc,hm=>by
  cases x<;>simp only [V9] at h<;>first | (cases h; done) | skip
  rename_i c path'
  obtain ⟨hb,h⟩:=bvT h
  simp only [Bool.and_eq_true] at hb
  simp at h; subst h
  have h1:=Cp hb.1
  have h2:=Cq hb.2
  subst h2
  refine ⟨.p id path,rfl,?_,rfl⟩
  have hc':cs=[.pointer (some ⟨β c,Jp path,none⟩)]:=hc
  show cs=[.pointer (some ⟨Xd ri β id,Jp path,none⟩)]
  rw [hc']; simp only [Xd,h1]
 | .s id,true,x,cs,l,rest,h,hc,hm=>by cases hm rfl
 | .s id,false,x,cs,l,rest,h,hc,hm=>by
  cases x<;>simp only [V9] at h<;>first | (cases h; done) | skip
  ·rename_i c
   obtain ⟨hb,h⟩:=bvT h
   simp only [Bool.and_eq_true] at hb
   simp at h; subst h
   have h1:=Cp hb.1
   refine ⟨.s id,rfl,?_,rfl⟩
   obtain ⟨h2,h3⟩:=hc
   have e:K3 ri pr ρ id=ρ c:=by simp only [K3,h1]
   exact ⟨by rw [e]; exact h2,by rw [e]; exact h3⟩
  ·obtain ⟨hb,h⟩:=bvT h
   simp only [Bool.and_eq_true] at hb
   simp at h; subst h
   have h1:=Cr hb.1
   refine ⟨.s id,rfl,?_,rfl⟩
   have hc':cs=[.slice none 0 0]:=hc
   have e:K3 ri pr ρ id=.slice none 0 0:=by
    simp only [K3,h1]
    have:=hb.2
    cases hp:J9 pr id with
    | true=>rw [hp] at this; cases this
    | false=>rfl
   exact ⟨⟨_,hc',.inl e.symm⟩,none,0,0,e⟩
 | .m id,true,x,cs,l,rest,h,hc,hm=>by cases hm rfl
 | .m id,false,x,cs,l,rest,h,hc,hm=>by
  cases x<;>simp only [V9] at h<;>first | (cases h; done) | skip
  rename_i c
  obtain ⟨hb,h⟩:=bvT h
  simp at h; subst h
  have h1:=Cp hb
  refine ⟨.m id,rfl,?_,rfl⟩
  have hc':cs=[.map (some (β c))]:=hc
  show cs=[.map (some (Xd ri β id))]
  rw [hc']; simp only [Xd,h1]
 | .ns,true,x,cs,l,rest,h,hc,hm=>by cases hm rfl
 | .ns,false,x,cs,l,rest,h,hc,hm=>by cases x<;>simp [V9] at h; subst h; exact ⟨.ns,rfl,hc,rfl⟩
 | .np,true,x,cs,l,rest,h,hc,hm=>by cases hm rfl
 | .np,false,x,cs,l,rest,h,hc,hm=>by cases x<;>simp [V9] at h; subst h; exact ⟨.np,rfl,hc,rfl⟩
 | .nm,true,x,cs,l,rest,h,hc,hm=>by cases hm rfl
 | .nm,false,x,cs,l,rest,h,hc,hm=>by cases x<;>simp [V9] at h; subst h; exact ⟨.nm,rfl,hc,rfl⟩
 | .nf,true,x,cs,l,rest,h,hc,hm=>by cases hm rfl
 | .nf,false,x,cs,l,rest,h,hc,hm=>by cases x<;>simp [V9] at h; subst h; exact ⟨.nf,rfl,hc,rfl⟩
 | .z,true,x,cs,l,rest,h,hc,hm=>by cases hm rfl
 | .z,false,x,cs,l,rest,h,hc,hm=>by cases x<;>simp [V9] at h; subst h; exact ⟨.z,rfl,hc,rfl⟩
 | .f fn c,true,x,cs,l,rest,h,hc,hm=>by cases hm rfl
 | .f fn c,false,x,cs,l,rest,h,hc,hm=>by
  cases x<;>simp only [V9] at h<;>first | (cases h; done) | skip
  rename_i fn' x'
  obtain ⟨hb,h0⟩:=bvT h
  simp only [Bool.and_eq_true] at hb
  have h1:=Nat.eq_of_beq_eq_true hb.1
  subst h1
  obtain ⟨vs,h2,h3⟩:=hc
  obtain ⟨y,h4,h5,_⟩:=Gg hM (m:=true) rest h0 h3 fun _=>hb.2
  exact ⟨.f fn y,by simp only [Hx,h4],⟨vs,h2,h5⟩,rfl⟩
 | .ag s,true,x,cs,l,rest,h,hc,hm=>by cases hm rfl
 | .ag s,false,x,cs,l,rest,h,hc,hm=>by
  simp only [V9] at h
  split at h
  ·rename_i y hy
   obtain ⟨z0,h1,h2,_⟩:=Gg hM (m:=false) rest h (Lg hy hc) fun e=>by cases e
   refine ⟨.ag z0,by simp only [Hx,h1],h2,?_⟩
   unfold E5 at hy
   split at hy<;>first | rfl | cases hy
  ·cases h
 | .nil,m,x,cs,l,rest,h,hc,hm=>by
  cases x<;>simp [V9] at h
  subst h
  refine ⟨.nil,rfl,?_,rfl⟩
  cases m<;>exact hc
 | .cons a b,true,x,cs,l,rest,h,hc,hm=>by
  cases x<;>simp only [V9] at h<;>first | (cases h; done) | skip
  rename_i x r
  split at h
  ·rename_i u v hu hv
   simp at h; subst h
   obtain ⟨c1,vs,h1,h2,h3⟩:=hc
   obtain ⟨y,e1,e2,e3⟩:=Gg hM (m:=false) (v++rest) hu h2 fun e=>by cases e
   obtain ⟨z0,e4,e5,e6⟩:=Gg hM (m:=true) rest hv h3 fun _=>by simpa [Sk.isL] using hm rfl
   refine ⟨.cons y z0,by simp only [Hx,List.append_assoc,e1,e4],⟨c1,vs,?_,e2,e5⟩,rfl⟩
   rw [h1]
   simp only [AV.val,e3]
  ·cases h
 | .cons a b,false,x,cs,l,rest,h,hc,hm=>by
  cases x<;>simp only [V9] at h<;>first | (cases h; done) | skip
  rename_i x r
  split at h
  ·rename_i u v hu hv
   simp at h; subst h
   obtain ⟨c1,c2,h1,h2,h3⟩:=hc
   obtain ⟨y,e1,e2,e3⟩:=Gg hM (m:=false) (v++rest) hu h2 fun e=>by cases e
   obtain ⟨z0,e4,e5,e6⟩:=Gg hM (m:=false) rest hv h3 fun e=>by cases e
   exact ⟨.cons y z0,by simp only [Hx,List.append_assoc,e1,e4],⟨c1,c2,h1,e2,e5⟩,rfl⟩
  ·cases h
theorem Cs (hM:∀id o,Qb M id=some o→(Qp β ρ id o).p ok w) {env:List En} (hE:∀e∈env,(enD β ρ a e).p ok w) :
  ∀{Γe:List (Nat×Sk)} {l:List DV} (rest:List DV),Ov M ri pr env Γe=some l →
   ∃es,Gs Γe (l++rest)=(es,rest)∧∀e∈es,(enD (Xd ri β) (K3 ri pr ρ) a e).p ok w∧Nat.blt e.t 100000=true
 | [],l,rest,h=>by simp [Ov] at h; subst h; exact ⟨[],rfl,by simp⟩
 | (t,s)::g,l,rest,h=>by
  simp only [Ov] at h
  split at h
  ·rename_i t' x hx
   split at h
   ·rename_i u v hu hv
    simp at h; subst h
    obtain ⟨hm,ht⟩:=V6 hx
    simp only at ht
    subst ht
    obtain ⟨cs,h1,h2⟩:=(hE _ hm).1 (Qa a)
    obtain ⟨y,h3,h4,h5⟩:=Gg hM (v++rest) hu h2 fun e=>by cases e
    obtain ⟨es,h6,h7⟩:=Cs hM hE rest hv
    refine ⟨⟨t',[],y⟩::es,by simp only [Gs,List.append_assoc,h3,h6],fun e he=>?_⟩
    rcases List.mem_cons.1 he with rfl | he
    ·refine ⟨⟨fun _=>⟨cs,?_,h4⟩,.inl (Qa a)⟩,Fp hx⟩
     rw [h1]; simp only [AV.val,h5]
    ·exact h7 e he
   ·cases h
  ·cases h
theorem Q0 {l m:List (Nat×Ob)} {c:Nat} {o:Ob} (h:Qb l c=some o):Qb (l++m) c=some o:=by
 induction l with
 | nil=>simp [Qb] at h
 | cons q l ih =>
  simp only [Qb,List.cons_append] at h ⊢
  cases hb:Nat.beq q.1 c with
  | true=>rw [hb] at h; exact h
  | false=>rw [hb] at h; exact ih h
def Q4a (β:Nat→Nat) (ρ:Nat→Value) (ri:List (Nat×Nat)) (pr:List Nat) (ok:Ok) (w:World) (M:List (Nat×Ob)) (id:Nat) (o:Ob):Prop :=
 (∃c ob,Jo ri id=some c∧Qb M c=some ob∧(∀g,(Qp (Xd ri β) (K3 ri pr ρ) id o).blks g→(Qp β ρ c ob).blks g)∧(∀b f,(Qp (Xd ri β) (K3 ri pr ρ) id o).cov b f→(Qp β ρ c ob).cov b f)∧(Qp (Xd ri β) (K3 ri pr ρ) id o).p ok w) ∨
 (Jo ri id=none∧(∀g,¬ (Qp (Xd ri β) (K3 ri pr ρ) id o).blks g)∧∀ok w,(Qp (Xd ri β) (K3 ri pr ρ) id o).p ok w)
theorem Qt1 {v:Value} (hv:v=.slice none 0 0) {e:Nat} {τ:Type} {r:RT τ} (ok:Ok) (w:World):(ml v e r []).p ok w:=by
 subst hv
 exact ⟨rfl,[],World.ownsRowS_nil _ _ _ _,rfl⟩
theorem Qpj {v:Value} (hv:v=.slice none 0 0) {e:Nat} {τ:Type} {r:RT τ} (ok:Ok) (w:World):(Ui v e r []).p ok w:=by
 subst hv
 exact ⟨Q34,[],World.ownsRowS_nil _ _ _ _⟩
theorem Ln {M0 F:List (Nat×Ob)} (hM:∀id o,Qb (M0++F) id=some o→(Qp β ρ id o).p ok w) :
  ∀{Γm:List (Nat×SkO)} {l:List DV},Qio ri pr Γm=true→E6 M0 F ri pr Γm=some l →
   (Ux Γm l).map Prod.fst=Γm.map Prod.fst∧∀q∈Ux Γm l,Q4a β ρ ri pr ok w M0 q.1 q.2
 | [],l,_,h=>by simp [E6] at h; subst h; exact ⟨rfl,by simp [Ux]⟩
 | (id,s)::g,l,hp,h=>by
  simp only [Qio,Bool.and_eq_true] at hp
  simp only [E6] at h
  split at h
  ·rename_i o ho
   split at h
   ·rename_i u v hu hv
    simp at h; subst h
    have key:∃ob',Wo s (u++v)=some (ob',v)∧Q4a β ρ ri pr ok w M0 id ob':=by
     unfold Qin at ho
     split at ho
     ·rename_i hn
      simp at ho; subst ho
      have hnp:J9 pr id=false:=by
       have:=hp.1
       cases hm:J9 pr id with
       | false=>rfl
       | true =>
        rw [hm] at this
        simp only [Qf4,hn,Bool.not_true,Bool.or_self] at this
        cases this
      have e:K3 ri pr ρ id=.slice none 0 0:=by simp only [K3,hn,hnp,cond_false]
      have nb:∀g,¬ (K3 ri pr ρ id).ownBlock=some g:=by rw [e]; intro g hg; cases hg
      cases s with
      | row e' t =>
       simp only [Hy] at hu
       simp at hu; subst hu
       refine ⟨.row e' t [],?_,.inr ⟨hn,nb,fun ok w=>Qt1 e ok w⟩⟩
       simp [Wo,Ty.cast,Ty.beq_refl]
      | tail e' t =>
       simp only [Hy] at hu
       simp at hu; subst hu
       refine ⟨.tail e' t [],?_,.inr ⟨hn,fun g hg=>nb g hg,fun ok w=>Qpj e ok w⟩⟩
       simp [Wo,Ty.cast,Ty.beq_refl]
      | var tid c=>simp [Hy] at hu
      | map k u'=>simp [Hy] at hu
      | mapT k u' path e t=>simp [Hy] at hu
      | mapO k9=>simp [Hy] at hu
     ·rename_i c hc
      split at ho
      ·rename_i ob hob
       simp at ho; subst ho
       have hpo:=hM c ob (Q0 hob)
       have eR:K3 ri pr ρ id=ρ c:=by simp only [K3,hc]
       have eB:Xd ri β id=β c:=by simp only [Xd,hc]
       cases s with
       | var tid sk =>
        cases ob<;>simp only [Hy] at hu<;>first | (cases hu; done) | skip
        rename_i tid' x
        obtain ⟨hb,hu0⟩:=bvT hu
        have:=Nat.eq_of_beq_eq_true hb
        subst this
        obtain ⟨cs,h1,h2⟩:=hpo
        obtain ⟨y,h3,h4,h5⟩:=Gg hM v hu0 h2 fun e=>by cases e
        refine ⟨.var tid y,by simp only [Wo,h3],.inl ⟨c,_,hc,hob,?_,?_,cs,by rw [eB]; exact h1,h4⟩⟩
        ·intro g hg
         have hg':g=Xd ri β id:=hg
         show g=β c
         rw [hg',eB]
        ·intro b f hg
         have hg':b=Xd ri β id:=hg
         show b=β c
         rw [hg',eB]
       | row e' t =>
        cases ob<;>simp only [Hy] at hu<;>first | (cases hu; done) | skip
        rename_i e2 t2 xs
        obtain ⟨hb,hu0⟩:=bvT hu
        clear hu
        simp only [Bool.and_eq_true] at hb
        have h1:=Nat.eq_of_beq_eq_true hb.1
        have h2:=Ty.beq_eq hb.2
        subst h1; subst h2
        simp at hu0; subst hu0
        refine ⟨.row e' t xs,by simp [Wo,Ty.cast,Ty.beq_refl],.inl ⟨c,_,hc,hob,?_,?_,?_⟩⟩<;>simp only [Qp,eR]
        ·exact fun _ hg=>hg
        ·exact fun _ _ hg=>hg
        ·exact hpo
       | tail e' t =>
        cases ob<;>simp only [Hy] at hu<;>first | (cases hu; done) | skip
        rename_i e2 t2 xs
        obtain ⟨hb,hu0⟩:=bvT hu
        clear hu
        simp only [Bool.and_eq_true] at hb
        have h1:=Nat.eq_of_beq_eq_true hb.1
        have h2:=Ty.beq_eq hb.2
        subst h1; subst h2
        simp at hu0; subst hu0
        refine ⟨.tail e' t xs,by simp [Wo,Ty.cast,Ty.beq_refl],.inl ⟨c,_,hc,hob,?_,?_,?_⟩⟩<;>simp only [Qp,eR]
        ·exact fun _ hg=>hg
        ·exact fun _ _ hg=>hg
        ·exact hpo
       | map k u' =>
        cases ob<;>simp only [Hy] at hu<;>first | (cases hu; done) | skip
        rename_i k2 u2 xs
        obtain ⟨hb,hu0⟩:=bvT hu
        clear hu
        simp only [Bool.and_eq_true] at hb
        have h1:=Ty.beq_eq hb.1
        have h2:=Ty.beq_eq hb.2
        subst h1; subst h2
        simp at hu0; subst hu0
        refine ⟨.map k u' xs,by simp [Wo,Ty.cast,Ty.beq_refl],.inl ⟨c,_,hc,hob,?_,?_,?_⟩⟩<;>simp only [Qp,eB]
        ·exact fun _ hg=>hg
        ·exact fun _ _ hg=>hg
        ·exact hpo
       | mapT k u' path e t =>
        cases ob<;>simp only [Hy] at hu<;>first | (cases hu; done) | skip
        rename_i k2 u2 path2 e2 t2 xs hole
        obtain ⟨hb,hu0⟩:=bvT hu
        clear hu
        simp only [Bool.and_eq_true] at hb
        obtain ⟨⟨⟨⟨⟨b1,b2⟩,b3⟩,b4⟩,b5⟩,b6⟩:=hb
        have h1:=Ty.beq_eq b1
        have h2:=Ty.beq_eq b2
        have h3:=Cq b3
        have h4:=Nat.eq_of_beq_eq_true b4
        have h5:=Ty.beq_eq b5
        subst h1; subst h2; subst h3; subst h4; subst h5
        have h6:=Cr b6
        subst h6
        simp at hu0; subst hu0
        refine ⟨.mapT k u' path e t xs none,by simp [Wo,Ty.cast,Ty.beq_refl],.inl ⟨c,_,hc,hob,?_,?_,?_⟩⟩<;>simp only [Qp,eB,eR]
        ·exact fun _ hg=>hg
        ·exact fun _ _ hg=>hg
        ·exact hpo
       | mapO k =>
        cases ob<;>simp only [Hy] at hu<;>first | (cases hu; done) | skip
        rename_i k2 xs last
        obtain ⟨hb,hu0⟩:=bvT hu
        clear hu
        have h1:=Ty.beq_eq hb
        subst h1
        simp at hu0; subst hu0
        refine ⟨.mapO k xs none,by simp [Wo,Ty.cast,Ty.beq_refl],.inl ⟨c,_,hc,hob,?_,?_,?_⟩⟩<;>simp only [Qp,eB]
        ·exact fun _ hg=>hg
        ·exact fun _ _ hg=>hg
        ·obtain ⟨xs',p1,p2,_⟩:=hpo
         exact ⟨xs',p1,p2,fun q hq=>by cases hq⟩
      ·cases ho
    obtain ⟨ob',h1,h2⟩:=key
    obtain ⟨h3,h4⟩:=Ln hM hp.2 hv
    simp only [Ux,h1]
    refine ⟨by simp [h3],fun q hq=>?_⟩
    rcases List.mem_cons.1 hq with rfl | hq
    ·exact h2
    ·exact h4 q hq
   ·cases h
  ·cases h
theorem Zd:∀{l:List Nat} {t:Nat},J9 l t=true↔t∈l
 | [],t=>by simp [J9]
 | k::l,t=>by
  simp only [J9,Bool.or_eq_true,List.mem_cons,Zd (l:=l)]
  constructor
  ·rintro (h | h)
   ·exact .inl (Nat.eq_of_beq_eq_true h).symm
   ·exact .inr h
  ·rintro (h | h)
   ·subst h; exact .inl (Nat.beq_refl _)
   ·exact .inr h
theorem Qt2 {pr:List Nat} (hi:Qch pr ri=true):∀i∈pr,Xd ri β i=β i∧K3 ri pr ρ i=ρ i:=by
 have key:∀{ri:List (Nat×Nat)},Qch pr ri=true→∀i∈pr,∀c,Jo ri i=some c→c=i:=by
  intro ri
  induction ri with
  | nil=>intro _ i _ c hc; simp [Jo] at hc
  | cons q l ih =>
   obtain ⟨k,x⟩:=q
   intro h i hi c hc
   simp only [Qch,Bool.and_eq_true] at h
   simp only [Jo] at hc
   cases hb:Nat.beq k i with
   | true =>
    rw [hb] at hc
    simp at hc; subst hc
    have:=Nat.eq_of_beq_eq_true hb
    subst this
    have h1:=h.1
    rw [Zd.2 hi] at h1
    exact (Nat.eq_of_beq_eq_true (by simpa using h1)).symm
   | false=>rw [hb] at hc; exact ih h.2 i hi c hc
 intro i hm
 cases hl:Jo ri i with
 | none=>exact ⟨by simp only [Xd,hl],by simp only [K3,hl,Zd.2 hm,cond_true]⟩
 | some c =>
  have:=key hi i hm c hl
  subst this
  exact ⟨by simp only [Xd,hl],by simp only [K3,hl]⟩
theorem Fw:∀{Γm:List (Nat×SkO)} {mem:List (Nat×Ob)} {cs:List Nat},Wc ri Γm cs=true→mem.map Prod.fst=Γm.map Prod.fst →
  (mem.Pairwise fun q q'=>∀c c',Jo ri q.1=some c→Jo ri q'.1=some c'→c≠c')∧∀q∈mem,∀c,Jo ri q.1=some c→c∉cs
 | [],mem,cs,_,hm=>by
  have:mem=[]:=by simpa using hm
  subst this; exact ⟨.nil,by simp⟩
 | (id,s)::g,mem,cs,h,hm=>by
  cases mem with
  | nil=>simp at hm
  | cons q mem =>
   simp only [List.map_cons,List.cons.injEq] at hm
   obtain ⟨h1,h2⟩:=hm
   simp only [Wc] at h
   split at h
   ·rename_i c hc
    simp only [Bool.and_eq_true] at h
    obtain ⟨h3,h4⟩:=Fw h.2 h2
    refine ⟨List.pairwise_cons.2 ⟨fun q' hq' c1 c2 e1 e2 e=>?_,h3⟩,fun q' hq' c1 e1=>?_⟩
    ·rw [h1,hc] at e1
     injection e1 with e1; subst e1; subst e
     exact h4 q' hq' c e2 (.head _)
    ·rcases List.mem_cons.1 hq' with rfl | hq'
     ·rw [h1,hc] at e1
      injection e1 with e1; subst e1
      intro hm
      have:=h.1
      rw [Zd.2 hm] at this
      cases this
     ·exact fun hm=>h4 q' hq' c1 e1 (.tail _ hm)
   ·rename_i hn
    obtain ⟨h3,h4⟩:=Fw h h2
    refine ⟨List.pairwise_cons.2 ⟨fun q' hq' c1 c2 e1 e2 e=>?_,h3⟩,fun q' hq' c1 e1=>?_⟩
    ·rw [h1,hn] at e1; cases e1
    ·rcases List.mem_cons.1 hq' with rfl | hq'
     ·rw [h1,hn] at e1; cases e1
     ·exact h4 q' hq' c1 e1
theorem Zu {β β':Nat→Nat} {ρ ρ':Nat→Value}:∀{m:Bool} {x:AV} {cs:List Value},(∀i∈Q2 x,β' i=β i∧ρ' i=ρ i)→cr β ρ ok w m x cs→cr β' ρ' ok w m x cs
 | m,.d t x,cs,_,h=>by cases m<;>exact h
 | m,.p id path,cs,hn,h=>by
  have:=(hn id (.head _)).1
  cases m<;>(simp only [cr] at h ⊢; rw [this]; exact h)
 | m,.e id path,cs,hn,h=>by
  have:=(hn id (.head _)).2
  cases m<;>(simp only [cr] at h ⊢; rw [this]; exact h)
 | m,.s id,cs,hn,h=>by
  have:=(hn id (.head _)).2
  cases m<;>(simp only [cr] at h ⊢; rw [this]; exact h)
 | m,.m id,cs,hn,h=>by
  have:=(hn id (.head _)).1
  cases m<;>(simp only [cr] at h ⊢; rw [this]; exact h)
 | m,.b id,cs,hn,h=>by
  have:=(hn id (.head _)).1
  cases m<;>(simp only [cr] at h ⊢; rw [this]; exact h)
 | m,.w id _ _,cs,hn,h=>by
  have:=(hn id (.head _)).1
  cases m<;>(simp only [cr] at h ⊢; rw [this]; exact h)
 | m,.a t x,cs,_,h=>by cases m<;>exact h
 | m,.z,cs,_,h=>by cases m<;>exact h
 | m,.ns,cs,_,h=>by cases m<;>exact h
 | m,.np,cs,_,h=>by cases m<;>exact h
 | m,.nm,cs,_,h=>by cases m<;>exact h
 | m,.nf,cs,_,h=>by cases m<;>exact h
 | m,.f fn caps,cs,hn,h=>by cases m<;>exact let ⟨vs,h1,h2⟩:=h; ⟨vs,h1,Zu (fun i hi=>hn i (by simpa [Q2] using hi)) h2⟩
 | m,.ag l,cs,hn,h=>by cases m<;>exact Zu (m:=false) (x:=l) (fun i hi=>hn i (by simpa [Q2] using hi)) h
 | m,.tp l,cs,hn,h=>by cases m<;>exact let ⟨vs,h1,h2⟩:=h; ⟨vs,h1,Zu (fun i hi=>hn i (by simpa [Q2] using hi)) h2⟩
 | m,.nil,cs,_,h=>by cases m<;>exact h
 | true,.cons x r,cs,hn,h=>by
  exact let ⟨c1,vs,h1,h2,h3⟩:=h; ⟨c1,vs,h1,Zu (fun i hi=>hn i (by simp [Q2,hi])) h2,Zu (fun i hi=>hn i (by simp [Q2,hi])) h3⟩
 | false,.cons x r,cs,hn,h=>by
  exact let ⟨c1,vs,h1,h2,h3⟩:=h; ⟨c1,vs,h1,Zu (fun i hi=>hn i (by simp [Q2,hi])) h2,Zu (fun i hi=>hn i (by simp [Q2,hi])) h3⟩
theorem Qt3 {β β':Nat→Nat} {ρ ρ':Nat→Value} {l:List En} (ha:∀i∈Eh l,β' i=β i∧ρ' i=ρ i):∀e∈l,(enD β ρ a e).p ok w→(enD β' ρ' a e).p ok w:=by
 intro e he h
 have h1:∀i∈Q2 e.av,β' i=β i∧ρ' i=ρ i:=by
  intro i hi
  refine ha i ?_
  clear ha h
  induction l with
  | nil=>cases he
  | cons x l ih =>
   simp only [Eh,List.mem_append]
   rcases List.mem_cons.1 he with rfl | he
   ·exact .inl hi
   ·exact .inr (ih he)
 exact ⟨fun hc=>let ⟨cs,h2,h3⟩:=h.1 hc; ⟨cs,h2,Zu h1 h3⟩,h.2⟩
theorem Ct {β β':Nat→Nat} {ρ ρ':Nat→Value}:∀{l:List (Nat×Ob)},(∀i∈Q3 l,β' i=β i∧ρ' i=ρ i)→∀q∈l,(∀g,(Qp β' ρ' q.1 q.2).blks g↔(Qp β ρ q.1 q.2).blks g)∧(∀b o,(Qp β' ρ' q.1 q.2).cov b o↔(Qp β ρ q.1 q.2).cov b o) ∧
  ∀ok w,(Qp β ρ q.1 q.2).p ok w→(Qp β' ρ' q.1 q.2).p ok w
 | (id,o)::l,ha,q,hq=>by
  rcases List.mem_cons.1 hq with rfl | hq
  ·obtain ⟨h1,h2⟩:=ha id (by
    cases o with
    | mapT k v path e u xs hole=>cases hole<;>simp [Q3]
    | mapO k9 xs9 hole=>cases hole<;>simp [Q3,Zp]
    | _=>simp [Q3])
   cases o with
   | var t c =>
    refine ⟨fun g=>by simp only [Qp,Xf]; rw [h1],fun b o=>by simp only [Qp,Xf]; rw [h1],fun ok w hp=>?_⟩
    obtain ⟨cs,hh,hc⟩:=hp
    exact ⟨cs,by rw [h1]; exact hh,Zu (fun i hi=>ha i (by simp [Q3,hi])) hc⟩
   | row e t xs=>simp only [Qp,h2]; exact ⟨fun _=>trivial,fun _ _=>trivial,fun _ _ h=>h⟩
   | tail e t xs=>simp only [Qp,h2]; exact ⟨fun _=>trivial,fun _ _=>trivial,fun _ _ h=>h⟩
   | map k v xs=>simp only [Qp,h1]; exact ⟨fun _=>trivial,fun _ _=>trivial,fun _ _ h=>h⟩
   | mapT k v path e u xs hole =>
    have hv:A5 ρ' hole=A5 ρ hole:=by
     cases hole with
     | none=>rfl
     | some q=>exact (ha q.2 (by simp [Q3])).2
    simp only [Qp,h1,h2,hv]; exact ⟨fun _=>trivial,fun _ _=>trivial,fun _ _ h=>h⟩
   | mapE k v xs key j=>simp only [Qp,h1,(ha j (by simp [Q3])).1]; exact ⟨fun _=>trivial,fun _ _=>trivial,fun _ _ h=>h⟩
   | mapO k9 xs9 hole =>
    have hv:A6 β' hole=A6 β hole:=by
     cases hole with
     | none=>rfl
     | some q=>simp only [A6,Option.map_some,(ha q.2 (by simp [Q3,Zp])).1]
    simp only [Qp,h1,hv]; exact ⟨fun _=>trivial,fun _ _=>trivial,fun _ _ h=>h⟩
  ·exact Ct (fun i hi=>ha i (by
    cases o with
    | mapT k v path e u xs hole=>cases hole<;>simp [Q3,hi]
    | mapO k9 xs9 hole=>cases hole<;>simp [Q3,Zp,hi]
    | _=>simp [Q3,hi])) q hq
theorem Rel.decF {Γ:Shp} {env fix:List En} {M F:List (Nat×Ob)} {ri:List (Nat×Nat)} {pr:List Nat} (h:Rel X β ρ ⟨env++fix,M++F⟩ a w) {x:Γ.De}
  (hd:Gx.decF Γ ri (pr++(Eh fix++Q3 F)) (env++fix) M F=some x) :
  ∃β' ρ',(∀i∈pr,β' i=β i∧ρ' i=ρ i)∧Rel X β' ρ' ⟨(enc Γ x).env++fix,(enc Γ x).mem++F⟩ a w ∧
   (∀q∈(enc Γ x).mem,∀c,Jo ri q.1=some c→β' q.1=β c∧ρ' q.1=ρ c):=by
 unfold Gx.decF Qkx at hd
 obtain ⟨hb,hd⟩:=bvT hd
 simp only [Bool.and_eq_true] at hb
 obtain ⟨⟨⟨b1,b2⟩,b3⟩,b4⟩:=hb
 have h1:=Rel.freeze M (l0:=[]) (F:=F) (ks:=Qo2 (env++fix) Γ.env++Qaq M ri Γ.mem) h
 simp only [List.nil_append] at h1
 split at hd
 ·rename_i u v hu hv
  have hx:=Pc hd
  have hM:=h1.mm
  obtain ⟨es,e1,e2⟩:=Cs (M:=frz Γ ri (env++fix) M++F) hM (fun e he=>h1.en he) v hu
  obtain ⟨m1,m2⟩:=Ln hM b3 hv
  have henc:enc Γ x=⟨es,Ux Γ.mem v⟩:=by
   unfold enc
   rw [hx,e1]
  rw [henc]
  have hag:=Qt2 (β:=β) (ρ:=ρ) b4
  have hagF:∀i∈Q3 F,Xd ri β i=β i∧K3 ri (pr++(Eh fix++Q3 F)) ρ i=ρ i:=fun i hi=>hag i (by simp [hi])
  have hagE:∀i∈Eh fix,Xd ri β i=β i∧K3 ri (pr++(Eh fix++Q3 F)) ρ i=ρ i:=fun i hi=>hag i (by simp [hi])
  refine ⟨Xd ri β,K3 ri (pr++(Eh fix++Q3 F)) ρ,fun i hi=>hag i (by simp [hi]),?_,?_⟩
  ·have hS:Sb (fun _=>0) X [] (List.map (enD β ρ a) (env++fix)) [] (Qc (Xd ri β) (K3 ri (pr++(Eh fix++Q3 F)) ρ) (Ux Γ.mem v++F)) a w:=by
    have hpw:(List.map (fun q=>Qp β ρ q.1 q.2) (frz Γ ri (env++fix) M)++List.map (fun q=>Qp β ρ q.1 q.2) F).Pairwise fun s t=>∀g,s.blks g→¬ t.blks g:=by rw [←List.map_append]; exact h1.dOO
    have hpw':=List.pairwise_append.1 hpw
    refine Sb.remake h1 (fun t' ht'=>?_) ?_
    ·obtain ⟨q,hq,rfl⟩:=List.mem_map.1 ht'
     rcases List.mem_append.1 hq with hq | hq
     ·rcases m2 q hq with ⟨c,ob,h2,h3,h4,h5,h6⟩ | ⟨_,h4,h5⟩
      ·exact .inl ⟨_,List.mem_map.2 ⟨_,List.mem_append_left _ (Fv h3),rfl⟩,h4,h5,h6⟩
      ·exact .inr ⟨h4,h5⟩
     ·obtain ⟨f1,f2,f3⟩:=Ct hagF q hq
      exact .inl ⟨_,List.mem_map.2 ⟨q,List.mem_append_right _ hq,rfl⟩,fun g hg=>(f1 g).1 hg,fun b o hc=>(f2 b o).1 hc,f3 _ _ (h1.own _ (List.mem_map.2 ⟨q,List.mem_append_right _ hq,rfl⟩)).1⟩
    ·rw [Qc,List.map_append]
     obtain ⟨n1,_⟩:=Fw b1 m1
     refine List.pairwise_append.2 ⟨?_,?_,?_⟩
     ·rw [List.pairwise_map]
      refine List.Pairwise.imp_of_mem ?_ n1
      intro q q' hq hq' hne g hg hg'
      rcases m2 q hq with ⟨c,ob,h2,h3,h4,_⟩ | ⟨_,h4,_⟩
      ·rcases m2 q' hq' with ⟨c',ob',h2',h3',h4',_⟩ | ⟨_,h4',_⟩
       ·exact h1.disj (Q0 h3) (Q0 h3') (hne c c' h2 h2') g (h4 g hg) (h4' g hg')
       ·exact h4' g hg'
      ·exact h4 g hg
     ·rw [List.pairwise_map]
      have:=List.pairwise_map.1 hpw'.2.1
      refine List.Pairwise.imp_of_mem ?_ this
      intro q q' hq hq' hne g hg hg'
      exact hne g ((Ct hagF q hq).1 g |>.1 hg) ((Ct hagF q' hq').1 g |>.1 hg')
     ·intro t ht t' ht' g hg hg'
      obtain ⟨q,hq,rfl⟩:=List.mem_map.1 ht
      obtain ⟨q',hq',rfl⟩:=List.mem_map.1 ht'
      rcases m2 q hq with ⟨c,ob,h2,h3,h4,_⟩ | ⟨_,h4,_⟩
      ·exact hpw'.2.2 _ (List.mem_map.2 ⟨_,Fv h3,rfl⟩) _ (List.mem_map.2 ⟨q',hq',rfl⟩) g (h4 g hg) ((Ct hagF q' hq').1 g |>.1 hg')
      ·exact h4 g hg
   have hok:∀b o,okR X β ρ (frz Γ ri (env++fix) M++F) w b o→okR X (Xd ri β) (K3 ri (pr++(Eh fix++Q3 F)) ρ) (Ux Γ.mem v++F) w b o:=by
    rintro b o ⟨o1,o2,o3,o4⟩
    refine ⟨o1,o2,o3,fun t' ht' hc=>?_⟩
    obtain ⟨q,hq,rfl⟩:=List.mem_map.1 ht'
    rcases List.mem_append.1 hq with hq | hq
    ·rcases m2 q hq with ⟨c,ob,h2,h3,h4,h5,h6⟩ | ⟨_,h4,h5⟩
     ·exact o4 _ (List.mem_map.2 ⟨_,List.mem_append_left _ (Fv h3),rfl⟩) (h5 b o hc)
     ·exact h4 b ((Qp _ _ q.1 q.2).cb hc)
    ·exact o4 _ (List.mem_map.2 ⟨q,List.mem_append_right _ hq,rfl⟩) ((Ct hagF q hq).2.1 b o |>.1 hc)
   refine Rel.ofSb hS rfl fun e he=>?_
   rcases List.mem_append.1 he with he | he
   ·exact (enD _ _ a e).weak (e2 e he).1 hok
   ·exact (enD _ _ a e).weak (Qt3 hagE e he (h1.en (List.mem_append_right _ he))) hok
  ·intro q hq c hc
   exact ⟨by simp only [Xd,hc],by simp only [K3,hc]⟩
 ·cases hd
theorem XS.dec_ok {S:XS} {Γ:Shp} (h:Rel X β ρ S.flat a w) {x:Γ.De} (hd:S.dec Γ=some x) :
  ∃β' ρ',(∀i∈S.prot,β' i=β i∧ρ' i=ρ i)∧Rel X β' ρ' ⟨(enc Γ x).env++S.fix,(enc Γ x).mem++S.fixM⟩ a w:=by
 obtain ⟨β',ρ',h1,h2,_⟩:=Rel.decF (pr:=S.prot) h hd
 exact ⟨β',ρ',h1,h2⟩
end
end Gx

/- Operations that make or change objects. -/
namespace Gx
open Go Go.RowKit Gd
set_option linter.unusedVariables false
set_option linter.unusedSimpArgs false
def Xs (n:Nat) (a:Act):GL:=(List.range n).map fun t=>(t,Gd.AV.v (a.tmps.getD t undef))
theorem Cu {f:Nat→Gd.AV}:∀{l:List Nat} {t:Nat},t∈l→Jo (l.map fun t=>(t,f t)) t=some (f t)
 | k::l,t,h=>by
  simp only [List.map_cons,Jo]
  cases hb:Nat.beq k t with
  | true=>have:=Nat.eq_of_beq_eq_true hb; subst this; rfl
  | false =>
   rcases List.mem_cons.1 h with rfl | h
   ·simp [Nat.beq_refl] at hb
   ·exact Cu h
section
variable {P:Program} {X:Cx} {β β':Nat→Nat} {ρ ρ':Nat→Value} {S:St} {a a':Act} {w w':World} {cur:Vr}
theorem Rel.toG (h:Rel X β ρ S a w):Sb (fun _=>0) X (Xs X.n a) (S.env.map (enD β ρ a)) [] (Qc β ρ S.mem) a w :=
 {sz:=h.sz,df:=h.df,fr:=h.fr,pn:=h.pn,bel:=h.bel,dat:=h.dat,obj:=h.obj,own:=h.own,dHH:=h.dHH,dHO:=h.dHO,dOO:=h.dOO,
  tm:=fun p hp=>by
   obtain ⟨t,ht,rfl⟩:=List.mem_map.1 hp
   have hlt:t<a.tmps.size:=by rw [h.sz]; exact List.mem_range.1 ht
   simp [Vs,Array.getElem?_eq_getElem hlt,Array.getD_eq_getD_getElem?] }
theorem gvT (h:Rel X β ρ S a w) {t:Nat} (ht:t<X.n):gv (Xs X.n a) (.tmp t)=some (.v (a.eval (.tmp t))):=by
 simp only [gv,Xs]
 rw [Cu (f:=fun t=>Gd.AV.v (a.tmps.getD t undef)) (List.mem_range.2 ht)]
 rfl
theorem Lo (h:Rel X β ρ S a w) {t:Nat} {v:Value} (hv:a.tmps[t]?=some v):t<X.n:=by
 rw [←h.sz]
 rcases Nat.lt_or_ge t a.tmps.size with h1 | h1
 ·exact h1
 ·rw [Array.getElem?_eq_none h1] at hv; cases hv
theorem gvE (h:Rel X β ρ S a w) (hc:Jw a cur) {x:Operand} {v:AV} (hx:ev S cur x=some v):gv (Xs X.n a) x=some (.v (a.eval x)):=by
 cases x with
 | tmp t =>
  simp only [ev] at hx
  split at hx
  ·rename_i e he
   obtain ⟨hb,hx⟩:=bvT hx
   obtain ⟨cs,h1,h2⟩:=h.get he (Af hb hc)
   exact gvT h (Lo h h1)
  ·cases hx
 | const v=>rfl
 | func f=>rfl
 | global g=>rfl
theorem H3 (h:Rel X β ρ S a w) {ops:Array Oper} {o:Oper} (hw:Region.wanted o (yielded ops a.tmps)=true):Ka ops (Xs X.n a) o=some true:=by
 unfold Ka
 unfold Region.wanted at hw
 split
 ·rfl
 ·rename_i j want hg
  rw [hg] at hw
  simp only [beq_iff_eq] at hw
  unfold yielded at hw
  split
  ·rename_i p hp
   rw [hp] at hw
   split
   ·rename_i t ht
    simp only [Option.bind_some,ht] at hw
    split at hw
    ·rename_i b hb
     simp at hw; subst hw
     have hlt:=Lo h hb
     have:=gvT h hlt
     simp only [gv] at this
     rw [this]
     simp [Act.eval,hb]
    ·cases hw
   ·rename_i ht
    simp [ht] at hw
  ·rename_i hp
   simp [hp] at hw
theorem Rel.fin {env env':List En} {mem':List (Nat×Ob)} {O':List TL} {d:Nat} {v:Value} (hn:∀e∈env,True) (h':Sb (fun _=>0) X (Zi (Xs X.n a) d (.v v)) (env.map (enD β ρ a)) [] O' a' w') (hsz:a.tmps.size=X.n) (hd:okD X d=true)
  (hO:V2 O' (Qc β' ρ' mem')) (hcr:∀e∈env',∀(ok:Ok) (w:World) (cs:List Value),cr β ρ ok w false e.av cs→cr β' ρ' ok w false e.av cs) (he:∀e∈env',e∈env∧e.t≠d∧∀c∈e.cs,c.1≠d)
  {x:AV} {c:List Value} (hv:v=x.val c) (hx:cr β' ρ' (okR X β' ρ' mem' w') w' false x c):Rel X β' ρ' ⟨⟨d,[],x⟩::env',mem'⟩ a' w':=by
 have h1:=h'.simO hO
 have hoth:∀t,t≠d→a'.tmps[t]?=a.tmps[t]?:=by
  intro t ht
  rcases Nat.lt_or_ge t X.n with hlt | hge
  ·have hm:(t,Gd.AV.v (a.tmps.getD t undef))∈Zi (Xs X.n a) d (.v v):=by
    refine .tail _ ?_
    have:∀{l:GL},(t,Gd.AV.v (a.tmps.getD t undef))∈l→(t,Gd.AV.v (a.tmps.getD t undef))∈N2 l d:=by
     intro l
     induction l with
     | nil=>intro h; cases h
     | cons q l ih =>
      intro h
      obtain ⟨k,y⟩:=q
      simp only [N2]
      cases hb:Nat.beq k d with
      | true =>
       rcases List.mem_cons.1 h with e | h
       ·injection e with e1 _; subst e1; exact absurd (Nat.eq_of_beq_eq_true hb) ht
       ·exact ih h
      | false =>
       rcases List.mem_cons.1 h with e | h
       ·rw [e]; exact .head _
       ·exact .tail _ (ih h)
    exact this (List.mem_map.2 ⟨t,List.mem_range.2 hlt,rfl⟩)
   have:=h1.tm _ hm
   simp only [Vs] at this
   rw [this]
   have hlt':t<a.tmps.size:=by omega
   simp [Array.getD_eq_getD_getElem?,Array.getElem?_eq_getElem hlt']
  ·rw [Array.getElem?_eq_none (by have:=h1.sz; omega),Array.getElem?_eq_none (by omega)]
 have hdv:rd a' d=some v:=by
  have:=h1.tm (d,.v v) (.head _)
  rw [Xh (Xw hd)]
  simpa [Vs] using this
 have hrd:∀t,t≠d→rd a' t=rd a t:=fun t ht=>by unfold rd; rw [hoth t ht]
 refine Rel.ofSb h1 rfl fun e hm=>?_
 rcases List.mem_cons.1 hm with rfl | hm
 ·exact ⟨fun _=>⟨c,by rw [hdv,hv],hx⟩,.inl (Qa _)⟩
 ·obtain ⟨h2,h3,h4⟩:=he e hm
  have hp:=Jf.1 h1.dat _ (List.mem_map.2 ⟨e,h2,rfl⟩)
  have hcc:Jw a' e.cs↔Jw a e.cs:=⟨fun hc c hm=>by rw [←hoth _ (h4 c hm)]; exact hc c hm,fun hc c hm=>by rw [hoth _ (h4 c hm)]; exact hc c hm⟩
  refine ⟨fun hc=>?_,?_⟩
  ·obtain ⟨cs,h5,h6⟩:=hp.1 (hcc.1 hc)
   exact ⟨cs,by rw [hrd _ h3]; exact h5,hcr e hm _ _ _ h6⟩
  ·rw [hcc,hrd _ h3]; exact hp.2
theorem Fx {l:List En} {d:Nat} (h:G2 d l=true):∀e∈l,e.t≠d∧∀c∈e.cs,c.1≠d:=by
 induction l with
 | nil=>intro e he; cases he
 | cons x l ih =>
  simp only [G2,Bool.and_eq_true] at h
  intro e he
  rcases List.mem_cons.1 he with rfl | he
  ·have h1:=h.1
   simp only [Bool.not_eq_true',Bool.or_eq_false_iff] at h1
   exact ⟨fun e'=>by rw [e'] at h1; simp [Nat.beq_refl] at h1,Bu h1.2⟩
  ·exact ih h.2 e he
def agP (pr:List Nat) (β β':Nat→Nat) (ρ ρ':Nat→Value):Prop:=∀i∈pr,β' i=β i∧ρ' i=ρ i
theorem agP.refl (pr:List Nat) (β:Nat→Nat) (ρ:Nat→Value):agP pr β β ρ ρ:=fun _ _=>⟨rfl,rfl⟩
theorem agP.trans {pr:List Nat} {β1 β2 β3:Nat→Nat} {ρ1 ρ2 ρ3:Nat→Value} (h:agP pr β1 β2 ρ1 ρ2) (k:agP pr β2 β3 ρ2 ρ3):agP pr β1 β3 ρ1 ρ3 :=
 fun i hi=>⟨(k i hi).1.trans (h i hi).1,(k i hi).2.trans (h i hi).2⟩
theorem Zm {pr:List Nat} {d:Nat} (h:J9 pr d=false) (ha:Dc d β β' ρ ρ'):agP pr β β' ρ ρ' :=
 fun i hi=>ha i fun e=>by subst e; rw [Zd.2 hi] at h; cases h
structure Vo (S S':XS) (β β':Nat→Nat) (ρ ρ':Nat→Value):Prop where
 fix:S'.fix=S.fix
 fixM:S'.fixM=S.fixM
 prot:S'.prot=S.prot
 ag:agP S.prot β β' ρ ρ'
theorem Vo.refl (S:XS) (β:Nat→Nat) (ρ:Nat→Value):Vo S S β β ρ ρ:=⟨rfl,rfl,rfl,agP.refl _ _ _⟩
theorem Vo.trans {S1 S2 S3:XS} {β1 β2 β3:Nat→Nat} {ρ1 ρ2 ρ3:Nat→Value} (h:Vo S1 S2 β1 β2 ρ1 ρ2) (k:Vo S2 S3 β2 β3 ρ2 ρ3):Vo S1 S3 β1 β3 ρ1 ρ3 :=
 ⟨k.fix.trans h.fix,k.fixM.trans h.fixM,k.prot.trans h.prot,h.ag.trans (by rw [←h.prot]; exact k.ag)⟩
theorem J7 {n d:Nat} {S:XS} (h:okW n S d=true) (hn:X.n=n) (hr:X.res=[]):okD X d=true∧G2 d S.fix=true:=by
 simp only [okW,Bool.and_eq_true] at h
 refine ⟨?_,h.2⟩
 simp only [okD,hr,Hp,hn,Bool.true_and,Bool.and_eq_true]
 exact h.1
theorem Z6 {d:Nat} {l m:List En} (h:G2 d m=true):Jx (l++m) d=Jx l d++m:=by
 induction l with
 | nil =>
  simp only [List.nil_append,Jx]
  induction m with
  | nil=>rfl
  | cons x m ih =>
   simp only [G2,Bool.and_eq_true] at h
   have h1:=h.1
   simp only [Bool.not_eq_true'] at h1
   simp only [Jx,h1,cond_false,ih h.2]
 | cons x l ih =>
  simp only [List.cons_append,Jx,ih]
  cases (Nat.beq x.t d||Fq d x.cs)<;>rfl
theorem Ze {S:XS} {d:Nat} {cs:Vr} {x:AV} (h:G2 d S.fix=true):(S.put d cs x).flat=S.flat.put d cs x:=by
 simp only [XS.flat,XS.put,St.put,Z6 h,List.cons_append]
theorem Zv {S:XS} {d:Nat} (h:okB S d=true):Qv d (S.mem++S.fixM)=true∧B1 d S.fix=true∧J9 S.prot d=false:=by
 simp only [okB,Bool.and_eq_true] at h
 refine ⟨?_,h.1.2,by simpa using h.2⟩
 have key:∀{l m:List (Nat×Ob)},Qv d l=true→Qv d m=true→Qv d (l++m)=true:=by
  intro l m hl hm
  induction l with
  | nil=>exact hm
  | cons q l ih =>
   obtain ⟨k,o⟩:=q
   cases o with
   | mapT k1 v path e u xs hole=>cases hole<;>simp only [Qv,Bool.and_eq_true,List.cons_append] at hl ⊢<;>exact ⟨hl.1,ih hl.2⟩
   | mapO k9 xs9 hole=>cases hole<;>simp only [Qv,Mj,Bool.and_true,Bool.and_eq_true,List.cons_append] at hl ⊢<;>exact ⟨hl.1,ih hl.2⟩
   | _=>simp only [Qv,Bool.and_eq_true,List.cons_append] at hl ⊢; exact ⟨hl.1,ih hl.2⟩
 exact key h.1.1.1 h.1.1.2
theorem Gh {S:XS} {d:Nat} (hI:B1 d S.fix=true) (hF:G2 d S.fix=true):∀e∈Jx (Y6 d S.env) d++S.fix,e∈S.flat.env∧V1 d e.av=true∧e.t≠d∧∀c∈e.cs,c.1≠d:=by
 intro e he
 rcases List.mem_append.1 he with he | he
 ·obtain ⟨h1,h2,h3⟩:=X9 he
  obtain ⟨h4,h5⟩:=Dt h1
  exact ⟨List.mem_append_left _ h4,h5,h2,h3⟩
 ·obtain ⟨h1,h2⟩:=Fx hF e he
  exact ⟨List.mem_append_right _ he,H2 hI e he,h1,h2⟩
end
end Gx

/- Steps. -/
namespace Gx
open Go Go.RowKit Gd
set_option linter.unusedVariables false
set_option linter.unusedSimpArgs false
section
variable {P:Program} {Y:TX} {X:Cx} {S:XS} {β β':Nat→Nat} {ρ ρ':Nat→Value} {a a':Act} {w w':World} {n:Nat}
variable {ops:Array Oper} {Q:Exit→Act→World→Prop} {rest:List Oper} {R:Type} {k:XS→Option R} {r:R}
def KOk (P:Program) (ops:Array Oper) (Q:Exit→Act→World→Prop) (rest:List Oper) (X:Cx) (S0:XS) (β:Nat→Nat) (ρ:Nat→Value) {R:Type} (k:XS→Option R) (r:R):Prop :=
 ∀(β':Nat→Nat) (ρ':Nat→Value) (S':XS) (a':Act) (w':World),k S'=some r→Vo S0 S' β β' ρ ρ'→Rel X β' ρ' S'.flat a' w'→wpList P ops Q rest a' w'
theorem KOk.after (h:KOk P ops Q rest X S β ρ k r) {S1:XS} {β1:Nat→Nat} {ρ1:Nat→Value} (hk:Vo S S1 β β1 ρ ρ1):KOk P ops Q rest X S1 β1 ρ1 k r :=
 fun β' ρ' S' a' w' h1 h2 h3=>h β' ρ' S' a' w' h1 (hk.trans h2) h3
theorem K4 (S:XS) (d:Nat) (cs:Vr) (x:AV):Vo S (S.put d cs x) β β ρ ρ:=⟨rfl,rfl,rfl,agP.refl _ _ _⟩
theorem U1 {d:Nat} (hp:J9 S.prot d=false) (ha:Dc d β β' ρ ρ') (o:Ob) (cs:Vr) (x:AV):Vo S ((S.born d o).put d cs x) β β' ρ ρ':=⟨rfl,rfl,rfl,Zm hp ha⟩
theorem Qpk (hX:X.n=n) (hr:X.res=[]) (h:Rel X β ρ S.flat a w) {o:Oper} (hw:Region.wanted o (yielded ops a.tmps)=true) {d:Nat} (hd:o.dst=some d) (hwd:okW n S d=true) {x:AV} (hs:Mi P S.flat [] o x)
  (hk:k (S.put d [] x)=some r) (H:KOk P ops Q rest X S β ρ k r):wpList P ops Q (o::rest) a w:=by
 obtain ⟨h1,h2⟩:=J7 hwd hX hr
 obtain ⟨cs,h3,h4⟩:=hs h.toW (Qa a)
 refine Q8 hw (Jv h3 ?_)
 rw [hd]
 refine H β ρ _ _ _ hk (K4 S d [] x) ?_
 rw [Ze h2]
 exact h.put0 h1 h4
theorem Qpl (hX:X.n=n) (hr:X.res=[]) (h:Rel X β ρ S.flat a w) {o:Oper} (hw:Region.wanted o (yielded ops a.tmps)=true) {d:Nat} (hd:o.dst=some d) (hwd:okW n S d=true) (hb:okB S d=true) {t:TypeId} {c x:AV} {cs:List Value} {cv:Nat→List Value}
  (hrun:(execOp a.eval o).run P w=.ok (.value (x.val (cv w.heap.size))) (w.alloc (.cells cs.toArray t))) (hc:cr β ρ (okR X β ρ S.flat.mem w) w false c cs) (hn:V1 d c=true) (hx:∀(β:Nat→Nat) (ρ:Nat→Value) (ok:Ok) (w:World),cr β ρ ok w false x (cv (β d)))
  (hk:k ((S.born d (.var t c)).put d [] x)=some r) (H:KOk P ops Q rest X S β ρ k r):wpList P ops Q (o::rest) a w:=by
 obtain ⟨h1,h2⟩:=J7 hwd hX hr
 obtain ⟨f1,f2,f3⟩:=Zv hb
 refine Q8 hw (Jv hrun ?_)
 rw [hd]
 have ha:=Kj d β ρ w.heap.size (ρ d)
 have hbel:Below w.heap.size w (w.alloc (.cells cs.toArray t)):=(Below.refl _ _).alloc (Nat.le_refl _) _
 refine H (upd β d w.heap.size) (upd ρ d (ρ d)) _ _ _ hk (U1 f3 ha _ _ _) ?_
 have hA:Rel X (upd β d w.heap.size) (upd ρ d (ρ d)) ⟨Jx (Y6 d S.env) d++S.fix,(d,.var t c)::(S.mem++S.fixM)⟩ a (w.alloc (.cells cs.toArray t)):=by
  refine Rel.alloc h ha f1 (fun e he=>let ⟨q1,q2,_⟩:=Gh f2 h2 e he; ⟨q1,q2⟩) hbel (fun g hg=>?_) ?_
  ·have hg':g=upd β d w.heap.size d:=hg
   rw [Jn] at hg'; omega
  ·refine ⟨cs,?_,?_⟩
   ·rw [Jn]; exact heap_alloc_new w _
   ·have h5:cr (upd β d w.heap.size) (upd ρ d (ρ d)) (okR X β ρ S.flat.mem w) w false c cs:=Zl ha hn hc
    refine Vt (X8 h5 ((Evo.of_below hbel).mono fun b o hk=>hk.2.1)) ?_
    rintro b o ⟨o1,o2,o3,o4⟩
    refine ⟨o1,Nat.lt_of_lt_of_le o2 hbel.size,o3,fun u hu hcv=>?_⟩
    rcases List.mem_cons.1 hu with rfl | hu
    ·have hcv':b=upd β d w.heap.size d:=hcv
     rw [Jn] at hcv'; omega
    ·obtain ⟨t0,ht0,hs0⟩:=(W7 ha f1).mem u hu
     exact o4 t0 ht0 ((hs0.2.1 b o).1 hcv)
 have hP:=hA.put0 h1 (x:=x) (c:=cv (upd β d w.heap.size d)) (hx _ _ _ _)
 rw [show upd β d w.heap.size d=w.heap.size from Jn _ _ _] at hP
 have he:((S.born d (.var t c)).put d [] x).flat=⟨⟨d,[],x⟩::(Jx (Y6 d S.env) d++S.fix),(d,.var t c)::(S.mem++S.fixM)⟩:=rfl
 rw [he]
 refine hP.less fun e hm=>?_
 rcases List.mem_cons.1 hm with rfl | hm
 ·exact .head _
 ·refine .tail _ ?_
  have:Jx (Jx (Y6 d S.env) d++S.fix) d=Jx (Y6 d S.env) d++S.fix:=by
   rw [Z6 h2]
   congr 1
   have idem:∀l:List En,Jx (Jx l d) d=Jx l d:=by
    intro l
    induction l with
    | nil=>rfl
    | cons y l ih =>
     simp only [Jx]
     cases hb:(Nat.beq y.t d||Fq d y.cs) with
     | true=>simpa using ih
     | false=>simp only [cond_false,Jx,hb,ih]
   exact idem _
  show e∈Jx (Jx (Y6 d S.env) d++S.fix) d
  rw [this]; exact hm
theorem Q4b (hX:X.n=n) (hr:X.res=[]) (h:Rel X β ρ S.flat a w) {o:Oper} (hw:Region.wanted o (yielded ops a.tmps)=true) {d:Nat} (hd:o.dst=some d) (hwd:okW n S d=true) (hb:okB S d=true) {t:TypeId} {c:AV} {cs:List Value}
  (hrun:(execOp a.eval o).run P w=.ok (.value (.pointer (some ⟨w.heap.size,0,none⟩))) (w.alloc (.cells cs.toArray t))) (hc:cr β ρ (okR X β ρ S.flat.mem w) w false c cs) (hn:V1 d c=true)
  (hk:k ((S.born d (.var t c)).put d [] (.p d []))=some r) (H:KOk P ops Q rest X S β ρ k r):wpList P ops Q (o::rest) a w :=
 Qpl (x:=.p d []) (cv:=fun g=>[.pointer (some ⟨g,0,none⟩)]) hX hr h hw hd hwd hb hrun hc hn (fun _ _ _ _=>rfl) hk H
theorem Zf {l m:List (Nat×Ob)} {id:Nat} {o o':Ob} (h:Qb l id=some o):Ht l id o'++m=Ht (l++m) id o':=by
 induction l with
 | nil=>simp [Qb] at h
 | cons q l ih =>
  simp only [Qb] at h
  simp only [Ht,List.cons_append]
  cases hb:Nat.beq q.1 id with
  | true=>rfl
  | false=>rw [hb] at h; simp only [cond_false,List.cons_append,ih h]
theorem Qir (hT:Qy P Y.T) (h:Rel X β ρ S.flat a w) {o:Oper} (hw:Region.wanted o (yielded ops a.tmps)=true) {t:TypeId} {p x:Operand} (hop:o.op=.store t p x) (hd:o.dst=none) {e:TE} (he:Qe Y.T t=some e)
  {id:Nat} {path:List PS} {v c c':AV} {tid:TypeId} (hp:S.ev [] p=some (.p id path)) (hx:S.ev [] x=some v) (hm:Qb S.mem id=some (.var tid c)) (hs:∀{ok:Ok} {w:World} {cs ds:List Value},(∀id o,Qb S.flat.mem id=some o→(Qp β ρ id o).p ok w)→cr β ρ ok w false v ds→cr β ρ ok w false c cs →
   cr β ρ ok w false c' (cs.take (Jp path)++ds++cs.drop (Jp path+ds.length))∧Jp path+ds.length≤cs.length) (hsz:Nat.beq e.size v.size=true) (hval:v.isVal=true) (hin:v.inMem=true)
  (hk:k (S.set id (.var tid c'))=some r) (H:KOk P ops Q rest X S β ρ k r):wpList P ops Q (o::rest) a w:=by
 obtain ⟨c1,h1,h2⟩:=h.ev (Qa a) hp
 obtain ⟨ds,h3,h4⟩:=h.ev (Qa a) hx
 have h2':c1=_:=h2
 subst h2'
 have hm':Qb S.flat.mem id=some (.var tid c):=Q0 hm
 obtain ⟨⟨cs,hh,hc⟩,hmine⟩:=h.ob hm'
 obtain ⟨h5,h6⟩:=hs h.mm h4 hc
 have hdl:=Ur h4
 have hes:=Nat.eq_of_beq_eq_true hsz
 have hcells:Qh (v.val ds)=ds:=Z3 h4 hval hin
 have hst:=run_storeCells_at P (β id) (Jp path) tid ds 0 cs.toArray w hh (by simp; omega) (W5 h4 hin)
 simp only [Nat.add_zero,List.toList_toArray] at hst
 have hrun:(execOp a.eval o).run P w=.ok .skip (w.setRow (β id) (cs.take (Jp path)++ds++cs.drop (Jp path+ds.length)).toArray):=by
  have h1':a.eval p=.pointer (some ⟨β id,Jp path,none⟩):=h1
  have hcc:(v.val ds).cells.toList=ds:=by rw [←Yq,hcells]
  have hcsz:(v.val ds).cells.size=e.size:=by rw [←Array.length_toList,hcc]; omega
  unfold execOp
  rw [hop]
  simp only [h1',h3]
  simp [Instr.storeAt,Instr.sureAddr,storeVar,Jy hT w he,hcsz,hcc,hst]
 refine Q8 hw ?_
 unfold Oper.wp
 rw [hrun]
 show wpList P ops Q rest (a.put o.dst undef) _
 rw [hd]
 obtain ⟨l1,l2,e1,e2,e3⟩:=Jl hm'
 have hO:Qc β ρ S.flat.mem=Qc β ρ l1++Qp β ρ id (.var tid c)::Qc β ρ l2:=by rw [e1]; simp [Qc]
 have hS:=h.upd hO (t':=Qp β ρ id (.var tid c')) (w':=w.setRow (β id) (cs.take (Jp path)++ds++cs.drop (Jp path+ds.length)).toArray) rfl rfl rfl (by simp) (fun b hb hn=>setRow_other _ _ _ _ fun e=>hn e) (fun b o hb=>hb) (fun g hg=>.inl hg) (fun hevo hok=>by
  refine ⟨_,setRow_heap _ _ _ _ _ _ hh,?_⟩
  exact Vt (X8 h5 hevo) hok)
 have hE:(S.set id (.var tid c')).flat=⟨S.flat.env,Ht S.flat.mem id (.var tid c')⟩:=by
  simp only [XS.flat,XS.set]
  rw [Zf hm]
 refine H β ρ _ _ _ hk ⟨rfl,rfl,rfl,agP.refl _ _ _⟩ ?_
 rw [hE,e2]
 have hmem:Qc β ρ (l1++(id,Ob.var tid c')::l2)=Qc β ρ l1++Qp β ρ id (.var tid c')::Qc β ρ l2:=by simp [Qc]
 exact Rel.ofSb hS hmem.symm fun e he=>by
  have:=Jf.1 hS.dat _ (List.mem_map.2 ⟨e,he,rfl⟩)
  rw [←hmem] at this
  exact this
theorem Qk9 (hX:X.n=n) (hr:X.res=[]) (h:Rel X β ρ S.flat a w) {o:Oper} (hw:Region.wanted o (yielded ops a.tmps)=true) {d:Nat} (hd:o.dst=some d) (hwd:okW n S d=true) (hb:okB S d=true) {t:TypeId} (hop:o.op=.makeMap t none) {kk v:Ty}
  (hk:k ((S.born d (.map kk v [])).put d [] (.m d))=some r) (H:KOk P ops Q rest X S β ρ k r):wpList P ops Q (o::rest) a w:=by
 obtain ⟨h1,h2⟩:=J7 hwd hX hr
 obtain ⟨f1,f2,f3⟩:=Zv hb
 have hrun:(execOp a.eval o).run P w=.ok (.value (.map (some w.heap.size))) (w.alloc (.map #[] 0)):=by
  unfold execOp
  rw [hop]
  simp [Instr.makeMap]
 refine Q8 hw (Jv hrun ?_)
 rw [hd]
 have ha:=Kj d β ρ w.heap.size (ρ d)
 have hbel:Below w.heap.size w (w.alloc (.map #[] 0)):=(Below.refl _ _).alloc (Nat.le_refl _) _
 refine H (upd β d w.heap.size) (upd ρ d (ρ d)) _ _ _ hk (U1 f3 ha _ _ _) ?_
 have hA:Rel X (upd β d w.heap.size) (upd ρ d (ρ d)) ⟨Jx (Y6 d S.env) d++S.fix,(d,.map kk v [])::(S.mem++S.fixM)⟩ a (w.alloc (.map #[] 0)):=by
  refine Rel.alloc h ha f1 (fun e he=>let ⟨q1,q2,_⟩:=Gh f2 h2 e he; ⟨q1,q2⟩) hbel (fun g hg=>?_) ?_
  ·have hg':g=upd β d w.heap.size d:=hg
   rw [Jn] at hg'; omega
  ·refine ⟨#[],0,?_,rfl,by simp,by simp,by simp⟩
   rw [Jn]; exact heap_alloc_new w _
 have hP:=hA.put0 h1 (x:=.m d) (c:=[.map (some (upd β d w.heap.size d))]) rfl
 have hv:(AV.m d).val [.map (some (upd β d w.heap.size d))]=.map (some w.heap.size):=by rw [Jn]; rfl
 rw [hv] at hP
 have he:((S.born d (.map kk v [])).put d [] (.m d)).flat=⟨⟨d,[],.m d⟩::(Jx (Y6 d S.env) d++S.fix),(d,.map kk v [])::(S.mem++S.fixM)⟩:=rfl
 rw [he]
 refine hP.less fun e hm=>?_
 rcases List.mem_cons.1 hm with rfl | hm
 ·exact .head _
 ·refine .tail _ ?_
  have:Jx (Jx (Y6 d S.env) d++S.fix) d=Jx (Y6 d S.env) d++S.fix:=by
   rw [Z6 h2]
   congr 1
   have idem:∀l:List En,Jx (Jx l d) d=Jx l d:=by
    intro l
    induction l with
    | nil=>rfl
    | cons x l ih =>
     simp only [Jx]
     cases hb:(Nat.beq x.t d||Fq d x.cs) with
     | true=>simpa using ih
     | false=>simp only [cond_false,Jx,hb,ih]
   exact idem _
  show e∈Jx (Jx (Y6 d S.env) d++S.fix) d
  rw [this]; exact hm
theorem Qcp (hT:Qy P Y.T) (h:Rel X β ρ S.flat a w) {o:Oper} (hw:Region.wanted o (yielded ops a.tmps)=true) {t:TypeId} {m ky x:Operand} (hop:o.op=.mapUpdate t m ky x) (hd:o.dst=none) {te tk:TE} {kt et:TypeId} (hte:Qe Y.T t=some te) (htd:te.d=.map kt et) (htk:Qe Y.T kt=some tk)
  {id:Nat} {kv xv:AV} {kk v:Ty} {xs:List (kk.De×v.De)} {key:kk.De} {y:v.De} (hm:S.ev [] m=some (.m id)) (hkv:S.ev [] ky=some kv) (hx:S.ev [] x=some xv) (hmo:Qb S.mem id=some (.map kk v xs)) (hkey:asD [] kv kk=some key) (hy:asD S.flat.mem xv v=some y)
  (hdk:Ys Y.T kk tk.d=true) (hka:(kk.agg==kv.isAgg)=true) (hva:(v.agg==xv.isAgg)=true)
  (hk:k (S.set id (.map kk v (Yx key y xs)))=some r) (H:KOk P ops Q rest X S β ρ k r):wpList P ops Q (o::rest) a w:=by
 obtain ⟨c1,h1,h2⟩:=h.ev (Qa a) hm
 have h2':c1=[.map (some (β id))]:=h2
 subst h2'
 have h1':a.eval m=.map (some (β id)):=h1
 have hxv:isV (rt v) (okR X β ρ S.flat.mem w) w y (a.eval x):=h.asD (Qa a) hx hy (bEq hva)
 obtain ⟨c3,h3,h4⟩:=h.ev (Qa a) hkv
 have hkr:isV (rt kk) (okR X β ρ S.flat.mem w) w key (a.eval ky):=by
  refine ⟨c3,V8 (M:=[]) (β:=β) (ρ:=ρ) (by simp [Qb]) hkey h4,?_⟩
  rw [h3]; simp only [AV.val,RT.val,Xn,bEq hka]; cases kv.isAgg<;>rfl
 have hke:=Up (Q9 hdk) hkr
 have hm':Qb S.flat.mem id=some (.map kk v xs):=Q0 hmo
 obtain ⟨⟨es,clock,hg,hp,hnd,hst1,hst2⟩,hmine⟩:=h.ob hm'
 obtain ⟨es',clock',hrun,hp',hst'⟩:=C6 hT hte htd htk hdk hg hp ⟨hst1,hst2⟩ key hxv
 have hrun':(execOp a.eval o).run P w=.ok .skip { w with heap:=w.heap.setIfInBounds (β id) (.map es' clock') }:=by
  unfold execOp
  rw [hop]
  simp only [h1',hke]
  simp [hrun]
 refine Q8 hw ?_
 unfold Oper.wp
 rw [hrun']
 show wpList P ops Q rest (a.put o.dst undef) _
 rw [hd]
 have hgl:=Yl hg
 obtain ⟨l1,l2,e1,e2,e3⟩:=Jl hm'
 have hO:Qc β ρ S.flat.mem=Qc β ρ l1++Qp β ρ id (.map kk v xs)::Qc β ρ l2:=by rw [e1]; simp [Qc]
 have hS:=h.upd hO (t':=Qp β ρ id (.map kk v (Yx key y xs))) (w':={ w with heap:=w.heap.setIfInBounds (β id) (.map es' clock') }) rfl rfl rfl (by simp) (fun b hb hn=>(MapKept.heap_set hg).2 b fun e=>hn e) (fun b o hb=>hb) (fun g hg=>.inl hg) (fun hevo hok=>by
  refine ⟨es',clock',(MapKept.heap_set hg).1,?_,(Hf (Q9 hdk) key y hnd).1,hst'.1,hst'.2⟩
  exact Uu (Xg hp' hevo) hok)
 have hE:(S.set id (.map kk v (Yx key y xs))).flat=⟨S.flat.env,Ht S.flat.mem id (.map kk v (Yx key y xs))⟩:=by
  simp only [XS.flat,XS.set]
  rw [Zf hmo]
 refine H β ρ _ _ _ hk ⟨rfl,rfl,rfl,agP.refl _ _ _⟩ ?_
 rw [hE,e2]
 have hmem:Qc β ρ (l1++(id,Ob.map kk v (Yx key y xs))::l2)=Qc β ρ l1++Qp β ρ id (.map kk v (Yx key y xs))::Qc β ρ l2:=by simp [Qc]
 exact Rel.ofSb hS hmem.symm fun e he=>by
  have:=Jf.1 hS.dat _ (List.mem_map.2 ⟨e,he,rfl⟩)
  rw [←hmem] at this
  exact this
theorem Qla (hT:Qy P Y.T) (h:Rel X β ρ S.flat a w) {o:Oper} (hw:Region.wanted o (yielded ops a.tmps)=true) {t:TypeId} {p x:Operand} (hop:o.op=.store t p x) (hd:o.dst=none) {e:TE} (he:Qe Y.T t=some e)
  {id sz:Nat} {j:Int} {path:List PS} {v c:AV} {et:TypeId} {u:Ty} {xs:List u.De} {y z:u.De} (hp:S.ev [] p=some (.e id (.i j sz::path))) (hx:S.ev [] x=some v) (hm:Qb S.mem id=some (.row et u xs)) (hy:idx xs j=some y)
  (hs:Be path (.d u y) v=some c) (hz:asD S.flat.mem c u=some z) (hsz:Nat.beq e.size v.size=true) (hsu:Nat.beq sz u.size=true) (hpos:Nat.ble 1 u.size=true) (hval:v.isVal=true) (hin:v.inMem=true)
  (hk:k (S.set id (.row et u (xs.set j.toNat z)))=some r) (H:KOk P ops Q rest X S β ρ k r):wpList P ops Q (o::rest) a w:=by
 obtain ⟨c1,h1,g0,hg0,h2'⟩:=h.ev (Qa a) hp
 subst h2'
 obtain ⟨ds,h3,h4⟩:=h.ev (Qa a) hx
 have hm':Qb S.flat.mem id=some (.row et u xs):=Q0 hm
 have hes:=Nat.eq_of_beq_eq_true hsz
 have hszu:=Nat.eq_of_beq_eq_true hsu
 subst hszu
 have hdl:=Ur h4
 have hcells:Qh (v.val ds)=ds:=Z3 h4 hval hin
 obtain ⟨l1,l2,e1,e2,e3⟩:=Jl hm'
 obtain ⟨⟨hl0,cs0,hown0,_⟩,_⟩:=h.ob hm'
 obtain ⟨g,c0,hv⟩:∃g c0,ρ id=.slice (some ⟨g,0,none⟩) xs.length c0:=by
  rcases hown0.2 with ⟨hv,h0⟩ | ⟨g,cap,cur,fz,hv,_⟩
  ·rw [hv] at hg0; cases hg0
  ·exact ⟨g,cap,by rw [hv,hl0]⟩
 have hgg:g0=g:=by rw [hv] at hg0; simp [Value.ownBlock] at hg0; omega
 subst hgg
 have hO:Qc β ρ S.flat.mem=Qc β ρ l1++ml (.slice (some ⟨g0,0,none⟩) xs.length c0) et (rt u) xs::Qc β ρ l2:=by rw [e1]; simp [Qc,Qp,hv]
 have hoff:Jp path+ds.length≤u.size:=by
  obtain ⟨⟨hl,csr,hown,hr⟩,_⟩:=h.ob hm'
  have hrep:=X7 hr (Km hy).2
  obtain ⟨_,h6⟩:=Wa (β:=β) (ρ:=ρ) h4 hs (show cr β ρ _ w false (.d u y) _ from hrep)
  have:=(rt u).len hrep
  have h7:=Jh u
  omega
 obtain ⟨cur,fz,⟨hh,hfz⟩,hlen,hS⟩:=Sb.mset h (Qc β ρ l1) (Qc β ρ l2) hO hy (by rw [Jh]; exact Nat.le_of_ble_eq_true hpos) (off:=Jp path) (ds:=ds) (z:=z) (by rw [Jh]; exact hoff) (W5 h4 hin) (fun es hes=>by
  obtain ⟨h5,_⟩:=Wa (β:=β) (ρ:=ρ) h4 hs (show cr β ρ _ w false (.d u y) es from hes)
  exact V8 h.mm hz h5)
 rw [Jh] at hS hlen
 have hst:=Vz P g0 (j.toNat*u.size+Jp path) et fz ds 0 cur w hh hfz (by omega) (W5 h4 hin)
 simp only [Nat.add_zero] at hst
 have hrun:(execOp a.eval o).run P w=.ok .skip (w.setRow g0 (cur.toList.take (j.toNat*u.size+Jp path)++ds++cur.toList.drop (j.toNat*u.size+Jp path+ds.length)).toArray):=by
  have h1':a.eval p=.pointer (some ⟨g0,j.toNat*u.size+Jp path,none⟩):=h1
  have hcc:(v.val ds).cells.toList=ds:=by rw [←Yq,hcells]
  have hcsz:(v.val ds).cells.size=e.size:=by rw [←Array.length_toList,hcc]; omega
  unfold execOp
  rw [hop]
  simp only [h1',h3]
  simp [Instr.storeAt,Instr.sureAddr,storeVar,Jy hT w he,hcsz,hcc,hst]
 refine Q8 hw ?_
 unfold Oper.wp
 rw [hrun]
 show wpList P ops Q rest (a.put o.dst undef) _
 rw [hd]
 have hE:(S.set id (.row et u (xs.set j.toNat z))).flat=⟨S.flat.env,Ht S.flat.mem id (.row et u (xs.set j.toNat z))⟩:=by
  simp only [XS.flat,XS.set]
  rw [Zf hm]
 refine H β ρ _ _ _ hk ⟨rfl,rfl,rfl,agP.refl _ _ _⟩ ?_
 rw [hE,e2]
 have hmem:Qc β ρ (l1++(id,Ob.row et u (xs.set j.toNat z))::l2)=Qc β ρ l1++ml (.slice (some ⟨g0,0,none⟩) xs.length c0) et (rt u) (xs.set j.toNat z)::Qc β ρ l2:=by simp [Qc,Qp,hv]
 exact Rel.ofSb hS hmem.symm fun e he=>by
  have:=Jf.1 hS.dat _ (List.mem_map.2 ⟨e,he,rfl⟩)
  rw [←hmem] at this
  exact this
end
end Gx
