/- The step of append; parts of slices and strings; conversions. -/
import Derived.Test.YtgnpojenbefoiaaGreatGCore
import Derived.Orders
import Derived.Laws.MakeOwn
import Derived.ProofKit
import Derived.OpenShut
import Derived.Below
import Derived.ChangeSame
namespace Gd
open Go Go.RowKit
set_option linter.unusedVariables false
set_option linter.unusedSimpArgs false
section
variable {P:Program} {T:Tab} {β:Nat→Nat} {X:Cx} {G:GL} {D:List DF} {H:HL} {O:List TL} {a:Act} {w w':World}
variable {ops:Array Oper} {Q:Exit→Act→World→Prop} {rest:List Oper}
theorem Qb3 {τ:Type} {r:RT τ} {ok:Ok} {w:World} {b o:Nat}:∀(xs:List τ) (k:Nat),
  (∀i x,xs[i]?=some x→∃cs,r.rep ok w x cs∧W0 ok w b (o+(k+i)*r.size) cs) →
  ∃cs:List Value,cs.length=xs.length*r.size∧(∀c∈cs,c.oneCell'=true)∧(∀(j:Nat) u,cs[j]?=some u→ok b (o+k*r.size+j)∧w.cell? ⟨b,o+k*r.size+j,none⟩=some u) ∧
   ∀i x,xs[i]?=some x→∃ds,r.rep ok w x ds∧∀(j:Nat) u,ds[j]?=some u→cs[i*r.size+j]?=some u
 | [],k,_=>⟨[],by simp,by simp,by simp,by simp⟩
 | x::xs,k,h=>by
  obtain ⟨d0,hr0,hc0⟩:=h 0 x rfl
  obtain ⟨cs,hl,h1,hc,hi⟩:=Qb3 xs (k+1) (fun i y hy=>by
   have:=h (i+1) y (by simpa using hy)
   rw [show k+(i+1)=k+1+i from by omega] at this
   exact this)
  have hl0:=r.len hr0
  refine ⟨d0++cs,by simp [hl,hl0,Nat.add_mul]; omega,?_,?_,?_⟩
  ·intro c hcm
   rcases List.mem_append.1 hcm with hcm | hcm
   ·exact r.flat hr0 c hcm
   ·exact h1 c hcm
  ·intro j u hu
   by_cases hj:j<d0.length
   ·rw [List.getElem?_append_left hj] at hu
    have:=hc0 j u hu
    simpa using this
   ·rw [List.getElem?_append_right (by omega)] at hu
    have:=hc _ u hu
    rw [hl0] at this
    have e:o+(k+1)*r.size+(j - r.size)=o+k*r.size+j:=by rw [Nat.add_mul]; omega
    rw [e] at this
    exact this
  ·intro i y hy
   cases i with
   | zero =>
    simp at hy; subst hy
    refine ⟨d0,hr0,fun j u hu=>?_⟩
    have hj:=(List.getElem?_eq_some_iff.1 hu).1
    rw [Nat.zero_mul,Nat.zero_add,List.getElem?_append_left hj]; exact hu
   | succ i =>
    obtain ⟨ds,hr,hd⟩:=hi i y (by simpa using hy)
    refine ⟨ds,hr,fun j u hu=>?_⟩
    rw [List.getElem?_append_right (by rw [hl0,Nat.add_mul]; omega),hl0]
    have e:(i+1)*r.size+j - r.size=i*r.size+j:=by rw [Nat.add_mul]; omega
    rw [e]
    exact hd j u hu
theorem El {τ:Type} {r:RT τ} {ok:Ok} {xs:List τ} {A:Option Addr} {m c:Nat} (h:Sh r ok w xs (.slice A m c)) :
  ∃cs:List Value,cs.length=m*r.size∧xs.length=m∧m≤c∧(A=none→m=0)∧(∀c∈cs,c.oneCell'=true) ∧
   (0<m→∃b o,A=some ⟨b,o,none⟩∧∀(j:Nat) u,cs[j]?=some u→ok b (o+j)∧w.cell? ⟨b,o+j,none⟩=some u) ∧
   ∀i x,xs[i]?=some x→∃ds,r.rep ok w x ds∧∀(j:Nat) u,ds[j]?=some u→cs[i*r.size+j]?=some u:=by
 obtain ⟨A',m',c',hv,hl,hc,hn⟩:=h
 injection hv with e1 e2 e3
 subst e1; subst e2; subst e3
 rcases Nat.eq_zero_or_pos m with h0 | h0
 ·have hx:xs=[]:=List.eq_nil_of_length_eq_zero (by omega)
  subst hx
  exact ⟨[],by simp [h0],hl,hc,fun _=>h0,by simp,fun h=>absurd h (by omega),by simp⟩
 ·obtain ⟨b,o,rfl,hx⟩:=hn h0
  obtain ⟨cs,hcl,h1,hcc,hi⟩:=Qb3 (r:=r) (ok:=ok) (w:=w) (b:=b) (o:=o) xs 0 (fun i x hx'=>by rw [Nat.zero_add]; exact hx i x hx')
  refine ⟨cs,by rw [hcl,hl],hl,hc,fun e=>by simp at e,h1,fun _=>⟨b,o,rfl,fun j u hu=>?_⟩,hi⟩
  have:=hcc j u hu
  simpa using this
def Qb4 {τ:Type} (r:RT τ) (ok:Ok) (w:World) (xs:List τ) (A:Option Addr) (m c:Nat):Prop :=
 ∃cs:List Value,cs.length=m*r.size∧xs.length=m∧m≤c∧(A=none→m=0)∧(∀c∈cs,c.oneCell'=true) ∧
  (0<m→∃b o,A=some ⟨b,o,none⟩∧∀(j:Nat) u,cs[j]?=some u→w.cell? ⟨b,o+j,none⟩=some u) ∧
  ∀i x,xs[i]?=some x→∃ds,r.rep ok w x ds∧∀(j:Nat) u,ds[j]?=some u→cs[i*r.size+j]?=some u
theorem Nj {τ:Type} {r:RT τ} {ok:Ok} {xs:List τ} {A:Option Addr} {m c:Nat} (h:isV (rSl r) ok w xs (.slice A m c)):Qb4 r ok w xs A m c:=by
 obtain ⟨cs,h1,h2,h3,h4,h5,h6,h7⟩:=El (Uh.1 h)
 exact ⟨cs,h1,h2,h3,h4,h5,fun hm=>let ⟨b,o,e,hc⟩:=h6 hm; ⟨b,o,e,fun j u hu=>(hc j u hu).2⟩,h7⟩
theorem Qb4.weak {τ:Type} {r:RT τ} {ok ok':Ok} {xs:List τ} {A:Option Addr} {m c:Nat} (h:Qb4 r ok w xs A m c) (hk:∀b o,ok b o→ok' b o):Qb4 r ok' w xs A m c:=by
 obtain ⟨cs,h1,h2,h3,h4,h5,h6,h7⟩:=h
 exact ⟨cs,h1,h2,h3,h4,h5,h6,fun i x hx=>let ⟨ds,q1,q2⟩:=h7 i x hx; ⟨ds,r.weak q1 hk,q2⟩⟩
theorem X5 (A:Option Addr) (n n' c c':Nat):(Value.slice A n c).ownBlock=(Value.slice A n' c').ownBlock:=by cases A<;>rfl
theorem Xe (b o j:Nat):(⟨b,o,none⟩:Addr).add j=⟨b,o+j,none⟩:=Addr.add_lit b o j
theorem L9 (hT:Qy P T) (h:Sb β X G D H O a w) (kx ky:Nat) (O1 O2:List TL) {t:TypeId} {s x:Operand} {d:Nat} {ps:String} {af:Array Edge} {ty:TypeId} {gd:Option (Nat×Bool)}
  (hg:Ka ops G ⟨some d,.call ⟨.builtin .append,⟨[s,x]⟩,⟨[t,t]⟩⟩,ty,ps,af,gd⟩=some true) (hlt:okD X d=true)
  {τ:Type} {r:RT τ} {xs ys zs:List τ} {A:Option Addr} {A2:Option Addr} {m c m2 c2:Nat} {e:TypeId} {te ee:TE} (ht:Qe T t=some te) (htd:te.d=.slice e) (he:Qe T e=some ee) (hs:ee.size=r.size)
  (hz:Nat.beq (Qh ee.z).length ee.size=true) (hsz:Nat.ble 1 ee.size=true) (hby:Nat.ble 1 ee.bytes=true)
  (hO:O=O1++tl (.slice A m c) e ee.size::O2) (hs1:gv G s=some (.v (.slice A m c))) (hx1:gv G x=some (.v (.slice A2 m2 c2)))
  (hDx:D[kx]?=some (DF.v (rSl r) xs (.slice A m c))) (hDy:isV (rSl r) (Q5 X.ok X.w.heap.size β H O w) w ys (.slice A2 m2 c2)) (happ:app ee.bytes xs ys=some zs)
  (hk:∀A' c' a' w',isV (rSl r) (Q5 X.ok X.w.heap.size β H (O1++tl (.slice A' zs.length c') e ee.size::O2) w') w' zs (.slice A' zs.length c') →
   Sb β X (Zi G d (.v (.slice A' zs.length c'))) D H (O1++tl (.slice A' zs.length c') e ee.size::O2) a' w'→wpList P ops Q rest a' w') :
  wpList P ops Q (⟨some d,.call ⟨.builtin .append,⟨[s,x]⟩,⟨[t,t]⟩⟩,ty,ps,af,gd⟩::rest) a w:=by
 subst hO
 obtain ⟨hbytes,rfl⟩:=Di happ
 have hmem:(tl (.slice A m c) e ee.size:TL)∈O1++tl (.slice A m c) e ee.size::O2:=by simp
 obtain ⟨xs0,hown⟩:=(h.own _ hmem).1
 have hmine:∀g,(Value.slice A m c).ownBlock=some g→X.mine g:=(h.own _ hmem).2
 have hvx:=Uh.1 (h.d kx hDx)
 obtain ⟨csx,hcx1,hxl,hmc,hA,hcx2,hcx3,hcx4⟩:=El hvx
 obtain ⟨csy,hcy1,hyl,hmc2,hA2,hcy2,hcy3,hcy4⟩:=El (Uh.1 hDy)
 have hzl:=Nat.eq_of_beq_eq_true hz
 have hsz':0<ee.size:=Nat.le_of_ble_eq_true hsz
 have hby':0<ee.bytes:=Nat.le_of_ble_eq_true hby
 have hnews:∀ad,A2=some ad→∀j u,csy[j]?=some u→w.cell? (ad.add j)=some u:=by
  intro ad had j u hu
  have hj:=(List.getElem?_eq_some_iff.1 hu).1
  have hm2:0<m2:=by
   rcases Nat.eq_zero_or_pos m2 with h0 | h0
   ·rw [h0,Nat.zero_mul] at hcy1; omega
   ·exact h0
  obtain ⟨b,o,hA',hc⟩:=hcy3 hm2
  rw [hA'] at had
  injection had with had
  subst had
  rw [Xe]
  exact (hc j u hu).2
 simp only [Uq] at hown
 obtain ⟨v',w1,hrun,hown',hgrow,hblk⟩:=Dj (P:=P) (w:=w) (ty:=ty) hT ht htd he hzl hsz' hby' hown (Nat.zero_le _) (k:=m2) (c:=c2) (A:=A2) (news:=csy) (by rw [hs]; exact hcy1) hA2 hnews hcy2 (by rw [←hxl,←hyl]; exact hbytes)
 have hrun':(execOp a.eval ⟨some d,.call ⟨.builtin .append,⟨[s,x]⟩,⟨[t,t]⟩⟩,ty,ps,af,gd⟩).run P w=.ok (.value v') w1:=by
  unfold execOp
  have hm:(Array.mk [s,x]).map a.eval=⟨[.slice A m c,.slice A2 m2 c2]⟩:=by simp [h.ev hs1,h.ev hx1,Vs]
  simp [resolve,hm,invoke,builtin,hrun]
 have hxs0:xs0.length=m*ee.size:=hown.1
 have hform:∃A' c',v'=.slice A' (m+m2) c'∧m+m2≤c'∧(0<m+m2→∃g,A'=some ⟨g,0,none⟩):=by
  rcases hown'.2 with ⟨rfl,h0⟩ | ⟨g,cap,cur,fz,rfl,_,_,_,hle,_⟩
  ·exact ⟨none,0,by rw [h0],by omega,fun h=>by omega⟩
  ·exact ⟨_,cap,rfl,hle,fun _=>⟨g,rfl⟩⟩
 obtain ⟨A',c',rfl,hc',hA'⟩:=hform
 have hlen:(xs++ys).length=m+m2:=by rw [List.length_append,hxl,hyl]
 have hrow:∀g,(Value.slice A' (m+m2) c').ownBlock=some g→∀(j:Nat) u,(xs0++csy)[j]?=some u→w1.cell? ⟨g,j,none⟩=some u:=by
  intro g hg j u hu
  have:=hown'.cells hg j u hu
  rwa [Xe,Nat.zero_add] at this
 have hrow0:∀g,(Value.slice A m c).ownBlock=some g→∀(j:Nat) u,xs0[j]?=some u→w.cell? ⟨g,j,none⟩=some u:=by
  intro g hg j u hu
  have:=hown.cells hg j u hu
  rwa [Xe,Nat.zero_add] at this
 have hlt1:=hown'.lt
 have hlt0:=hown.lt
 have hmine1:∀g,(Value.slice A' (m+m2) c').ownBlock=some g→X.mine g:=by
  intro g hg
  rcases hblk with he1 | ⟨he1,_⟩
  ·exact hmine g (by rw [←he1]; exact hg)
  ·rw [he1] at hg; injection hg with hg; subst hg; exact .inl h.bel.size
 have hevo:Evo (Q5 X.ok X.w.heap.size β H (O1++tl (.slice A m c) e ee.size::O2) w) w w1:=by
  refine ⟨hgrow.size,fun b o hk=>?_,fun b es cl hk hmp=>?_⟩
  rotate_left
  ·have hbg:some b≠(Value.slice A m c).ownBlock:=by
    intro he
    rcases hown.2 with ⟨hv0,_⟩ | ⟨g,cap,cur,fz,hv0,_,hh,_⟩
    ·rw [hv0] at he; simp [Value.ownBlock] at he
    ·rw [hv0] at he; simp only [Value.ownBlock,Option.some.injEq] at he; subst he; rw [hmp] at hh; cases hh
   rw [hgrow.block b hk.2.1 hbg]; exact hmp
  obtain ⟨_,h2,_,h4⟩:=hk
  by_cases hbg:some b=(Value.slice A m c).ownBlock
  ·rcases hblk with he1 | ⟨he1,hbel⟩
   ·have hnc:=h4 _ hmem
    simp only [tl,Uq,not_and,Nat.not_le] at hnc
    have ho:o<m*ee.size:=hnc hbg.symm
    have hu:∃u,xs0[o]?=some u:=⟨xs0[o]'(by omega),List.getElem?_eq_getElem (by omega)⟩
    obtain ⟨u,hu⟩:=hu
    rw [hrow0 b hbg.symm o u hu,hrow b (by rw [he1,←hbg]) o u (by rw [List.getElem?_append_left (by omega)]; exact hu)]
   ·exact hbel.cell (p:=⟨b,o,none⟩) h2
  ·exact World.cell?_of_block (w:=w) (hgrow.block b h2 hbg)
 have hok:∀b o,Q5 X.ok X.w.heap.size β H (O1++tl (.slice A m c) e ee.size::O2) w b o→Q5 X.ok X.w.heap.size β H (O1++tl (.slice A' (xs++ys).length c') e ee.size::O2) w1 b o:=by
  rintro b o ⟨h1,h2,h3,h4⟩
  refine ⟨h1,Nat.lt_of_lt_of_le h2 hgrow.size,h3,fun t ht hcv=>?_⟩
  rcases List.mem_append.1 ht with ht | ht
  ·exact h4 t (by simp [ht]) hcv
  ·rcases List.mem_cons.1 ht with rfl | ht
   ·obtain ⟨c1,c2⟩:=hcv
    simp only [Uq,hlen] at c1 c2
    rcases hblk with he1 | ⟨he1,_⟩
    ·have hnc:=h4 _ hmem
     simp only [tl,Uq,not_and,Nat.not_le] at hnc
     have:=hnc (by rw [←he1]; exact c1)
     rw [Nat.add_mul] at c2
     omega
    ·have e1:(Value.slice A' (m+m2) c').ownBlock=some b:=c1
     rw [he1] at e1
     injection e1 with e1
     omega
   ·exact h4 t (by simp [ht]) hcv
 have hothers:∀t∈O1++O2,∀g,t.blks g→some g≠(Value.slice A m c).ownBlock∧g<w.heap.size:=by
  intro t ht g hg
  refine ⟨fun e1=>?_,h.olt (by rcases List.mem_append.1 ht with ht | ht<;>simp [ht]) hg⟩
  have hp:=List.pairwise_append.1 h.dOO
  rcases List.mem_append.1 ht with ht | ht
  ·exact hp.2.2 t ht _ (.head _) g hg e1.symm
  ·have hp2:=List.pairwise_cons.1 hp.2.1
   exact hp2.1 t ht g e1.symm hg
 have hSb:Sb β X G D H (O1++tl (.slice A' (xs++ys).length c') e ee.size::O2) a w1:=by
  refine { sz:=h.sz,df:=h.df,fr:=h.fr,pn:=h.pn,tm:=h.tm,bel:=?_,dat:=(h.dat.evo hevo).weak hok,obj:=?_,own:=?_,dHH:=h.dHH,dHO:=?_,dOO:=?_ }
  ·exact h.bel.trans ⟨hgrow.os,hgrow.tape,hgrow.output,hgrow.size,fun k hk hn=>hgrow.block k (Nat.lt_of_lt_of_le hk h.bel.size) (fun e1=>by exact (hmine k e1.symm).elim (fun h=>by omega) hn)⟩
  ·intro p hp
   have hpb:=Yl (h.obj p hp).1
   refine ⟨?_,(h.obj p hp).2⟩
   rw [hgrow.block _ hpb (fun e1=>h.dHO p hp _ hmem e1.symm)]
   exact (h.obj p hp).1
  ·intro t ht
   rcases List.mem_append.1 ht with ht' | ht'
   ·exact ⟨t.weak (t.keep (h.own t (by simp [ht'])).1 (fun g hg=>hgrow.block g (hothers t (by simp [ht']) g hg).2 (hothers t (by simp [ht']) g hg).1) hevo) hok,(h.own t (by simp [ht'])).2⟩
   ·rcases List.mem_cons.1 ht' with rfl | ht'
    ·refine ⟨⟨xs0++csy,?_⟩,fun g hg=>hmine1 g ((X5 A' (m+m2) (xs++ys).length c' c').trans hg)⟩
     simp only [Uq,hlen]
     exact hown'
    ·exact ⟨t.weak (t.keep (h.own t (by simp [ht'])).1 (fun g hg=>hgrow.block g (hothers t (by simp [ht']) g hg).2 (hothers t (by simp [ht']) g hg).1) hevo) hok,(h.own t (by simp [ht'])).2⟩
  ·intro p hp t ht
   have hpb:=Yl (h.obj p hp).1
   rcases List.mem_append.1 ht with ht' | ht'
   ·exact h.dHO p hp t (by simp [ht'])
   ·rcases List.mem_cons.1 ht' with rfl | ht'
    ·intro e1
     have e2:(Value.slice A' (m+m2) c').ownBlock=some (β p.1):=(X5 A' (m+m2) (xs++ys).length c' c').trans e1
     rcases hblk with he1 | ⟨he1,_⟩
     ·rw [he1] at e2; exact h.dHO p hp _ hmem e2
     ·rw [he1] at e2; injection e2 with e2; omega
    ·exact h.dHO p hp t (by simp [ht'])
  ·have hp:=List.pairwise_append.1 h.dOO
   have hp2:=List.pairwise_cons.1 hp.2.1
   have hnew:∀t∈O1++O2,∀g,t.blks g→(Value.slice A' (m+m2) c').ownBlock≠some g:=by
    intro t ht g hg e2
    have:=hothers t ht g hg
    rcases hblk with he1 | ⟨he1,_⟩
    ·exact this.1 (by rw [←he1]; exact e2.symm)
    ·rw [he1] at e2; injection e2 with e2; omega
   refine List.pairwise_append.2 ⟨hp.1,List.pairwise_cons.2 ⟨fun t ht g hg hg2=>hnew t (by simp [ht]) g hg2 ((X5 A' (m+m2) (xs++ys).length c' c').trans hg),hp2.2⟩,?_⟩
   intro t ht u hu g hg
   rcases List.mem_cons.1 hu with rfl | hu
   ·exact fun hg2=>hnew t (by simp [ht]) g hg ((X5 A' (m+m2) (xs++ys).length c' c').trans hg2)
   ·exact hp.2.2 t ht u (.tail _ hu) g hg
 have hfact:isV (rSl r) (Q5 X.ok X.w.heap.size β H (O1++tl (.slice A' (xs++ys).length c') e ee.size::O2) w1) w1 (xs++ys) (.slice A' (xs++ys).length c'):=by
  refine Uh.2 ⟨_,_,_,rfl,rfl,by omega,fun hpos=>?_⟩
  obtain ⟨g,rfl⟩:=hA' (by omega)
  refine ⟨g,0,rfl,fun i x hx=>?_⟩
  have hgb:(Value.slice (some ⟨g,0,none⟩) (m+m2) c').ownBlock=some g:=rfl
  have hbase:=hlt1 g hgb
  have hcells:∀(j:Nat) u,(xs0++csy)[j]?=some u→j<(m+m2)*ee.size→Q5 X.ok X.w.heap.size β H (O1++tl (.slice (some ⟨g,0,none⟩) (xs++ys).length c') e ee.size::O2) w1 g j∧w1.cell? ⟨g,j,none⟩=some u:=by
   intro j u hu hj
   refine ⟨⟨X.mine_ok (hmine1 g hgb) j,hbase.2,fun p hp e1=>?_,fun t ht hcv=>?_⟩,hrow g hgb j u hu⟩
   ·have hpb:=Yl (h.obj p hp).1
    rcases hblk with he1 | ⟨he1,_⟩
    ·exact h.dHO p hp _ hmem (by show (Value.slice A m c).ownBlock=some (β p.1); rw [←he1,e1]; exact hgb)
    ·rw [hgb] at he1; injection he1 with he1; omega
   ·rcases List.mem_append.1 ht with ht' | ht'
    ·have:=hothers t (by simp [ht']) g (t.cb hcv)
     rcases hblk with he1 | ⟨he1,_⟩
     ·exact this.1 (by rw [←he1]; exact hgb.symm)
     ·rw [hgb] at he1; injection he1 with he1; omega
    ·rcases List.mem_cons.1 ht' with rfl | ht'
     ·have c2:=hcv.2
      simp only [Uq,hlen] at c2
      omega
     ·have:=hothers t (by simp [ht']) g (t.cb hcv)
      rcases hblk with he1 | ⟨he1,_⟩
      ·exact this.1 (by rw [←he1]; exact hgb.symm)
      ·rw [hgb] at he1; injection he1 with he1; omega
  have hconv:∀{x:τ} {ds:List Value},r.rep (Q5 X.ok X.w.heap.size β H (O1++tl (.slice A m c) e ee.size::O2) w) w x ds →
    r.rep (Q5 X.ok X.w.heap.size β H (O1++tl (.slice (some ⟨g,0,none⟩) (xs++ys).length c') e ee.size::O2) w1) w1 x ds:=fun hr=>r.weak (r.evo hr hevo) hok
  by_cases hi:i<m
  ·rw [List.getElem?_append_left (by omega)] at hx
   obtain ⟨ds,hr,hd⟩:=hcx4 i x hx
   refine ⟨ds,hconv hr,fun j u hu=>?_⟩
   have hj:j<r.size:=by have:=(List.getElem?_eq_some_iff.1 hu).1; rw [r.len hr] at this; exact this
   have hcu:=hd j u hu
   have hidx:i*r.size+j<m*r.size:=by
    have:(i+1)*r.size≤m*r.size:=Nat.mul_le_mul_right _ hi
    rw [Nat.add_mul] at this; omega
   obtain ⟨b',o',hA0,hc0⟩:=hcx3 (by omega)
   have hown0:b'=g∨True:=.inr trivial
   have hxs:xs0[i*r.size+j]?=some u:=by
    rcases hown.2 with ⟨hv0,h0⟩ | ⟨g0,cap,cur,fz0,hv0,_,_,_⟩
    ·omega
    ·injection hv0 with hv0
     rw [hA0] at hv0
     injection hv0 with hv0
     injection hv0 with hb0 ho0
     subst hb0; subst ho0
     have h1:=(hc0 _ u hcu).2
     have h2:=hrow0 b' (by rw [hA0]; rfl) (i*r.size+j) (xs0[i*r.size+j]'(by rw [hxs0,hs]; exact hidx)) (List.getElem?_eq_getElem _)
     rw [Nat.zero_add] at h1
     rw [h1] at h2
     rw [List.getElem?_eq_getElem (by rw [hxs0,hs]; exact hidx)]
     exact h2.symm
   have:=hcells (i*r.size+j) u (by rw [List.getElem?_append_left (by rw [hxs0,hs]; exact hidx)]; exact hxs) (by rw [hs,Nat.add_mul]; omega)
   rw [Nat.zero_add]
   exact this
  ·rw [List.getElem?_append_right (by omega),hxl] at hx
   obtain ⟨ds,hr,hd⟩:=hcy4 (i - m) x hx
   refine ⟨ds,hconv hr,fun j u hu=>?_⟩
   have hj:j<r.size:=by have:=(List.getElem?_eq_some_iff.1 hu).1; rw [r.len hr] at this; exact this
   have hcu:=hd j u hu
   have him:i - m<m2:=by
    have:=(List.getElem?_eq_some_iff.1 hx).1
    omega
   have hidx:(i - m)*r.size+j<m2*r.size:=by
    have:(i - m+1)*r.size≤m2*r.size:=Nat.mul_le_mul_right _ him
    rw [Nat.add_mul] at this; omega
   have e1:i*r.size+j=m*r.size+((i - m)*r.size+j):=by
    rw [←Nat.add_assoc,←Nat.add_mul]; congr 2; omega
   have:=hcells (i*r.size+j) u (by
    rw [List.getElem?_append_right (by rw [hxs0,hs,e1]; omega),hxs0,hs,e1,Nat.add_sub_cancel_left]
    exact hcu) (by rw [hs,Nat.add_mul,e1]; omega)
   rw [Nat.zero_add]
   exact this
 refine Q8 (Ue h hg) (Jv hrun' ?_)
 have hput:=hSb.put hlt (.v (.slice A' (xs++ys).length c'))
 have:=hk A' c' _ w1 hfact hput
 simp only [Vs,hlen] at this
 exact this
end
end Gd

/- Parts of slices and strings; conversions; text put together. -/
namespace Gd
open Go Go.RowKit
set_option linter.unusedVariables false
set_option linter.unusedSimpArgs false
def slc {α:Type} (xs:List α) (lo hi:Int):Option (List α):=if 0≤lo∧lo≤hi∧hi≤(xs.length:Int) then some ((xs.drop lo.toNat).take (hi - lo).toNat) else none
theorem slc_ok {α:Type} {xs ys:List α} {lo hi:Int} (h:slc xs lo hi=some ys):0≤lo∧lo≤hi∧hi≤(xs.length:Int)∧ys=(xs.drop lo.toNat).take (hi - lo).toNat∧ys.length=(hi - lo).toNat:=by
 unfold slc at h
 split at h
 ·rename_i hc
  have:=(Option.some.inj h).symm
  refine ⟨hc.1,hc.2.1,hc.2.2,this,?_⟩
  rw [this]; simp; omega
 ·cases h
def Q88 (a b:Str):Option Str:=if a.length+b.length≤9223372036854775807 then some (a++b) else none
def R7 (xs:List Int):Str:=xs.map fun i=>UInt8.ofNat i.toNat
def U3 (s:Str):List Int:=s.map fun c=>(c.toNat:Int)
section
variable {P:Program} {T:Tab} {β:Nat→Nat} {X:Cx} {G:GL} {D:List DF} {H:HL} {O:List TL} {a:Act} {w w':World}
variable {ops:Array Oper} {Q:Exit→Act→World→Prop} {rest:List Oper}
theorem A4 {k:IntKind} {i:Int} {y:Nat} {code:BoundsCode} (h0:0≤i) (h1:i≤y):(Instr.sliceBound (.int k i) y code).run P w=.ok i.toNat w:=by
 simp [Instr.sliceBound,asIntOf,h0,h1]
theorem N5 (ns:List Int) (s:Str):ns.foldl (fun r n=>r.push (UInt8.ofNat n.toNat)) (ByteArray.mk s.toArray)=ByteArray.mk (s++R7 ns).toArray:=by
 induction ns generalizing s with
 | nil=>simp [R7]
 | cons x ns ih =>
  simp only [List.foldl_cons]
  have:(ByteArray.mk s.toArray).push (UInt8.ofNat x.toNat)=ByteArray.mk (s++[UInt8.ofNat x.toNat]).toArray:=by
   apply ByteArray.ext; simp [ByteArray.push]
  rw [this,ih]
  simp [R7]
end
end Gd

/- A region whose order is drawn: what each operation gives, whatever the order. -/
namespace Gd
open Go Go.RowKit
set_option linter.unusedVariables false
set_option linter.unusedSimpArgs false
structure FV where
 p:Ok→World→Value→Prop
 evo:∀{ok w w' v},p ok w v→Evo ok w w'→p ok w' v
 weak:∀{ok ok' w v},p ok w v→(∀b o,ok b o→ok' b o)→p ok' w v
def FV.any:FV:=⟨fun _ _ _=>True,fun h _=>h,fun h _=>h⟩
def FV.rep {τ:Type} (r:RT τ) (x:τ):FV:=⟨fun ok w v=>isV r ok w x v,fun h he=>h.evo he,fun h hk=>h.weak hk⟩
def FV.at {τ:Type} (r:RT τ) (x:τ):FV:=⟨fun ok w v=>I8 r ok w x v,fun h he=>h.evo he,fun h hk=>h.weak hk⟩
def Qof (S:Nat→Prop):Nat→Prop
 | 0=>True
 | n+1=>Qof S n∧S n
theorem Qof.get {S:Nat→Prop}:∀{n i:Nat},Qof S n→i<n→S i
 | n+1,i,h,hi=>by
  rcases Nat.lt_or_ge i n with h1 | h1
  ·exact h.1.get h1
  ·have:i=n:=by omega
   subst this; exact h.2
def Ku (l:List Oper) (i j:Nat):Bool :=
 match l[i]? with
 | some o=>o.after.toList.any fun e=>Region.binds .any e&&Nat.beq e.on j
 | none=>false
def Zj (l:List Oper):Nat→Nat→Nat→Bool
 | 0,_,_=>false
 | f+1,i,j=>match l[i]? with
  | some o=>o.after.toList.any fun e=>Region.binds .any e&&(Nat.beq e.on j||Zj l f e.on j)
  | none=>false
def backB (l:List Oper):Bool:=l.zipIdx.all fun (o,i)=>o.after.toList.all fun e=>!Region.binds .any e||Nat.blt e.on i
def N6:List Nat→Bool
 | []=>true
 | d::ds=>Hp ds d&&N6 ds
def Q35:List Nat→Bool
 | []=>true
 | _=>false
section
variable {P:Program} {T:Tab} {β:Nat→Nat} {X:Cx} {G:GL} {D:List DF} {H:HL} {O:List TL} {a:Act} {w w':World}
def Dk:List Nat→Nat→List Nat
 | [],_=>[]
 | k::ks,d=>bif Nat.beq k d then Dk ks d else k::Dk ks d
theorem Yb {α β:Type} {f f':α→Option β}:∀{l:List α},(∀j∈l,f' j=f j)→l.filterMap f'=l.filterMap f
 | [],_=>rfl
 | y::ys,h=>by
  simp only [List.filterMap_cons,h y (.head _),Yb fun j hj=>h j (.tail _ hj)]
theorem N7 {d:Nat}:∀{ks:List Nat} {k:Nat},k∈ks→k≠d→k∈Dk ks d
 | q::ks,k,hk,hne=>by
  simp only [Dk]
  cases hb:Nat.beq q d with
  | true =>
   have:=Nat.eq_of_beq_eq_true hb
   rcases List.mem_cons.1 hk with rfl | hk
   ·exact absurd this hne
   ·exact N7 hk hne
  | false =>
   rcases List.mem_cons.1 hk with rfl | hk
   ·exact .head _
   ·exact .tail _ (N7 hk hne)
theorem Cj:∀{ds:List Nat},N6 ds=true→ds.Nodup
 | [],_=>List.Pairwise.nil
 | d::ds,h=>by
  simp only [N6,Bool.and_eq_true] at h
  exact List.Pairwise.cons (fun e he hd=>Bp h.1 (hd▸he)) (Cj h.2)
theorem Fo {l:List Oper} {listed:Array Bool} {i:Nat}:i∈Region.ready .any ⟨l⟩ listed ↔
  i<l.length∧listed.getD i true=false∧∃o,l[i]?=some o∧∀e∈o.after.toList,Region.binds .any e=true→listed.getD e.on false=true:=by
 simp only [Region.ready,List.mem_filter,List.mem_range,List.size_toArray]
 constructor
 ·rintro ⟨h1,h2⟩
  simp only [Bool.and_eq_true,Bool.not_eq_true'] at h2
  refine ⟨h1,h2.1,?_⟩
  have ho:(⟨l⟩:Array Oper)[i]?=some l[i]:=by simp [h1]
  rw [ho] at h2
  simp only [Option.map_some,Option.getD_some,Array.all_eq_true_iff_forall_mem] at h2
  refine ⟨l[i],by simp [h1],fun e he hb=>?_⟩
  have:=h2.2 e (Array.mem_toList_iff.1 he)
  simpa [hb] using this
 ·rintro ⟨h1,h2,o,ho,h3⟩
  refine ⟨h1,?_⟩
  have ho':(⟨l⟩:Array Oper)[i]?=some o:=by simpa using ho
  simp only [Bool.and_eq_true,Bool.not_eq_true',h2,ho',Option.map_some,Option.getD_some,Array.all_eq_true_iff_forall_mem,true_and]
  intro e he
  cases hb:Region.binds .any e with
  | false=>rfl
  | true=>simpa using h3 e (Array.mem_toList_iff.2 he) hb
def Ac (l:List Oper) (E:Nat→Prop):Prop:=∀i o,E i→l[i]?=some o→∀e∈o.after.toList,Region.binds .any e=true→E e.on
theorem K0 {l:List Oper} {E:Nat→Prop} (hc:Ac l E):∀(f i j:Nat),Zj l f i j=true→(∀o,l[i]?=some o→∀e∈o.after.toList,Region.binds .any e=true→E e.on)→E j
 | 0,_,_,h,_=>by simp [Zj] at h
 | f+1,i,j,h,hi=>by
  simp only [Zj] at h
  split at h
  ·rename_i o ho
   obtain ⟨e,he,hb⟩:=List.any_eq_true.1 h
   simp only [Bool.and_eq_true,Bool.or_eq_true] at hb
   have hE:=hi o ho e he hb.1
   rcases hb.2 with h1 | h1
   ·rw [←Nat.eq_of_beq_eq_true h1]; exact hE
   ·exact K0 hc f e.on j h1 fun o' ho'=>hc _ o' hE ho'
  ·cases h
theorem Qs8 {l:List Oper} {i:Nat} {o:Oper} (h:backB l=true) (ho:l[i]?=some o) {e:Edge} (he:e∈o.after.toList) (hb:Region.binds .any e=true):e.on<i:=by
 have hm:(o,i)∈l.zipIdx:=by
  rw [List.mem_zipIdx_iff_getElem?]; simpa using ho
 have:=List.all_eq_true.1 h _ hm
 have:=List.all_eq_true.1 this e he
 simp only [hb,Bool.not_true,Bool.false_or] at this
 exact Nat.lt_of_succ_le (Nat.le_of_ble_eq_true this)
theorem N8 {l:List Oper} {listed:Array Bool} (hs:listed.size=l.length) (hb:backB l=true) (hr:Region.ready .any ⟨l⟩ listed=[]):∀i,i<l.length→listed.getD i false=true:=by
 intro i
 induction i using Nat.strongRecOn with
 | _ i ih =>
  intro hi
  cases hl:listed.getD i false with
  | true=>rfl
  | false =>
   exfalso
   have:i∈Region.ready .any ⟨l⟩ listed:=by
    rw [Fo]
    refine ⟨hi,?_,l[i],by simp [hi],fun e he hbe=>?_⟩
    ·have h1:listed.getD i true=listed.getD i false:=by simp [Array.getD,hs,hi]
     rw [h1,hl]
    ·have hlt:=Qs8 (o:=l[i]) hb (List.getElem?_eq_getElem hi) he hbe
     exact ih e.on hlt (by omega)
   rw [hr] at this
   simp at this
theorem Ic {l:List Oper} {Q:Exit→Act→World→Prop} {i:Nat} {o:Oper} {K:Act→World→Prop} (ho:l[i]?=some o) (h:wpList P ⟨l⟩ (Exit.then K Q) [o] a w):wpOp P ⟨l⟩ Q i K a w:=by
 have ho':(⟨l⟩:Array Oper)[i]?=some o:=by simpa using ho
 unfold wpOp
 rw [ho']
 unfold wpList at h
 simp only
 split
 ·rename_i hw
  rw [if_pos hw] at h
  rcases h with h | ⟨h1,h2⟩
  ·left
   unfold Oper.wp at *
   generalize (execOp a.eval o).run P w=res at *
   cases res with
   | ok nx w1 =>
    cases nx<;>first
     | exact h
     | exact Calls.mono h (fun e w'' he=>by cases e<;>exact he)
     | exact Rows.mono h (fun _ _ he=>he)
   | halt x w1=>cases x<;>exact h
  ·exact .inr ⟨h1,h2⟩
 ·rename_i hw
  rw [if_neg hw] at h
  exact h
theorem G4 {l:List Oper} {Q:Exit→Act→World→Prop} {i:Nat} {o:Oper} (ho:l[i]?=some o) (h:wpList P ⟨l⟩ Q (l.drop i) a w):wpOp P ⟨l⟩ Q i (wpList P ⟨l⟩ Q (l.drop (i+1))) a w:=by
 have ho':(⟨l⟩:Array Oper)[i]?=some o:=by simpa using ho
 have hi:=(List.getElem?_eq_some_iff.1 ho).1
 rw [List.drop_eq_getElem_cons hi,(List.getElem?_eq_some_iff.1 ho).2] at h
 unfold wpOp
 rw [ho']
 exact h
theorem Sb.perm {O':List TL} (h:Sb β X G D H O a w) (hp:O.Perm O'):Sb β X G D H O' a w:=by
 have hok:∀b o,Q5 X.ok X.w.heap.size β H O w b o→Q5 X.ok X.w.heap.size β H O' w b o:=fun b o ⟨h1,h2,h3,h4⟩=>⟨h1,h2,h3,fun u hu=>h4 u (hp.mem_iff.2 hu)⟩
 refine { sz:=h.sz,df:=h.df,fr:=h.fr,pn:=h.pn,tm:=h.tm,bel:=h.bel,dat:=h.dat.weak hok,obj:=h.obj,own:=fun u hu=>⟨u.weak (h.own u (hp.mem_iff.2 hu)).1 hok,(h.own u (hp.mem_iff.2 hu)).2⟩,dHH:=h.dHH,dHO:=fun p hp' u hu=>h.dHO p hp' u (hp.mem_iff.2 hu),dOO:=?_ }
 exact (hp.pairwise_iff (fun {x y} hxy g hg hg2=>hxy g hg2 hg)).1 h.dOO
theorem Sb.unpin {f:Nat→Nat} {X:Cx} (h:Sb β {X with pin:=some f} G D H O a w) (hX:X.pin=none):Sb β X G D H O a w :=
 { h with pn:=fun g hg=>by rw [hX] at hg; cases hg }
theorem Sb.getD (h:Sb β X G D H O a w) {d:Nat} {v:Value} (hv:Jo G d=some (.v v)):a.tmps.getD d undef=v:=by
 have:=h.tm _ (Wm hv)
 simp only [Vs] at this
 simp [Array.getD_eq_getD_getElem?,this]
end
end Gd

/- Struct equality, literals of the call's own, results in cells, local arrays, function values. -/
namespace Gd
open Go Go.RowKit
set_option linter.unusedVariables false
set_option linter.unusedSimpArgs false
def N9 (T:Tab):List Field→List Value→List Value→Option Bool
 | [],_,_=>some true
 | f::fs,xs,ys=>match Qe T f.type,xs[f.offset]?,ys[f.offset]?,N9 T fs xs ys with
  | some ⟨_,.int _,_,_,_⟩,some (.int k a),some (.int k' b),some r=>bif Fn k k' then some ((a==b)&&r) else none
  | some ⟨_,.bool,_,_,_⟩,some (.bool a),some (.bool b),some r=>some ((a==b)&&r)
  | some ⟨_,.string,_,_,_⟩,some (.string ⟨⟨a⟩⟩),some (.string ⟨⟨b⟩⟩),some r=>some ((a==b)&&r)
  | _,_,_,_=>none
def E4 (fs:List Field):Bool:=fs.all fun f=>f.name != "_"
section
variable {P:Program} {T:Tab} {β:Nat→Nat} {X:Cx} {G:GL} {D:List DF} {H:HL} {O:List TL} {a:Act} {w w':World}
variable {ops:Array Oper} {Q:Exit→Act→World→Prop} {rest:List Oper}
theorem Dl (hT:Qy P T) {t:TypeId} {e:TE} (he:Qe T t=some e) (ha:Uw e.d=false) {xs:List Value} {off:Nat} {v:Value} (hv:xs[off]?=some v) :
  (part t xs.toArray off).run P w=.ok v w:=D9 hT w he xs off (by rw [ha]; simpa using hv)
theorem Qah (hT:Qy P T) (d:Nat):∀{fs:List Field} {xs ys:List Value} {r:Bool},E4 fs=true→N9 T fs xs ys=some r→(Op.eqFields (d+1) xs.toArray ys.toArray fs).run P w=.ok r w
 | [],xs,ys,r,_,h=>by simp [N9] at h; subst h; rfl
 | f::fs,xs,ys,r,hb,h=>by
  simp only [E4,List.all_cons,Bool.and_eq_true] at hb
  have hn:f.name ≠ "_" := by simpa using hb.1
  simp only [N9] at h
  have key:∀{e:TE} {u v:Value} {p q:Bool},Qe T f.type=some e→Uw e.d=false→xs[f.offset]?=some u→ys[f.offset]?=some v →
    (Op.equalIn (d+1) f.type u v).run P w=.ok p w→N9 T fs xs ys=some q→(Op.eqFields (d+1) xs.toArray ys.toArray (f::fs)).run P w=.ok (p&&q) w:=by
   intro e u v p q he ha hu hv hp hq
   have ih:=Qah hT d (by simpa [E4] using hb.2) hq
   simp only [Op.eqFields,ne_eq,hn,not_false_eq_true,if_true,Sem.run_bind,Dl hT he ha hu,Dl hT he ha hv,Result.andThen_ok,hp]
   cases p with
   | true=>simpa using ih
   | false=>simp
  split at h
  ·rename_i t1 k z1 s1 b1 k1 a1 k2 a2 q he hu hv hq
   cases hk:Fn k1 k2 with
   | false=>rw [hk] at h; cases h
   | true =>
    rw [hk] at h
    simp only [cond_true,Option.some.injEq] at h
    subst h
    have:=Gb hk
    subst this
    exact key he rfl hu hv (run_equalIn_int w d f.type k1 k a1 a2 (Js hT he).2) hq
  ·rename_i he hu hv hq
   simp at h; subst h
   exact key he rfl hu hv (run_equalIn_bool' w d f.type _ _ (Js hT he).2) hq
  ·rename_i t1 z1 s1 b1 a1 a2 q he hu hv hq
   simp at h; subst h
   refine key he rfl hu hv ?_ hq
   rw [run_equalIn_string w d f.type ⟨⟨a1⟩⟩ ⟨⟨a2⟩⟩ (Js hT he).2]
   rw [show (ByteArray.mk ⟨a1⟩).toList=a1 from ByteArray.toList_mk a1,show (ByteArray.mk ⟨a2⟩).toList=a2 from ByteArray.toList_mk a2]
  ·cases h
theorem Sb.allocTL (h:Sb β X G D H O a w) (hb:Below w.heap.size w w') {t:TL} (ht:∀g,t.blks g→w.heap.size≤g) (hq:t.p (Q5 X.ok X.w.heap.size β H (t::O) w') w'):Sb β X G D H (t::O) a w':=by
 have h':=h.below hb
 have hevo:Evo (Q5 X.ok X.w.heap.size β H O w) w w':=(Evo.of_below hb).mono fun b o hk=>hk.2.1
 have hok:∀b o,Q5 X.ok X.w.heap.size β H O w b o→Q5 X.ok X.w.heap.size β H (t::O) w' b o:=by
  rintro b o ⟨h1,h2,h3,h4⟩
  refine ⟨h1,Nat.lt_of_lt_of_le h2 hb.size,h3,fun u hu hc=>?_⟩
  rcases List.mem_cons.1 hu with rfl | hu
  ·have:=ht b (u.cb hc); omega
  ·exact h4 u hu hc
 refine { h' with dat:=(h.dat.evo hevo).weak hok,own:=fun u hu=>?_,dHO:=fun p hp u hu=>?_,dOO:=List.Pairwise.cons (fun u hu g hg hg2=>?_) h'.dOO }
 ·rcases List.mem_cons.1 hu with rfl | hu
  ·exact ⟨hq,fun g hg=>.inl (Nat.le_trans h.bel.size (ht g hg))⟩
  ·exact ⟨u.weak (u.keep (h.own u hu).1 (fun g hg=>hb.block g (h.olt hu hg)) hevo) hok,(h.own u hu).2⟩
 ·rcases List.mem_cons.1 hu with rfl | hu
  ·intro hg
   have:=ht _ hg
   have:=h.hlt hp
   omega
  ·exact h'.dHO p hp u hu
 ·have:=ht g hg
  have:=h.olt hu hg2
  omega
theorem Sb.allocOwn (h:Sb β X G D H O a w) (hb:Below w.heap.size w w') {v:Value} {e sz m:Nat} {xs:List Value} (hv:v.ownBlock=some w.heap.size∨v.ownBlock=none) (hm:Uq v=m) (hown:w'.ownsRowS 0 e sz v m xs) :
  Sb β X G D H (tl v e sz::O) a w':=by
 subst hm
 refine h.allocTL hb (t:=tl v e sz) (fun g hg=>?_) ⟨xs,hown⟩
 rcases hv with hv | hv
 ·have hg:v.ownBlock=some g:=hg
  rw [hv] at hg; injection hg with hg; omega
 ·have hg:v.ownBlock=some g:=hg
  rw [hv] at hg; cases hg
theorem Qs9 (w:World) (B:Nat) (hB:B≤w.heap.size) (e sz m:Nat) (cs:List Value) (hl:cs.length=m*sz) (hm:m≤maxLen) :
  (w.alloc (.cells cs.toArray e)).ownsRowS B e sz (.slice (some ⟨w.heap.size,0,none⟩) m m) m cs :=
 ⟨hl,.inr ⟨w.heap.size,m,cs.toArray,(0,0),rfl,hB,heap_alloc_new w _,.inl rfl,Nat.le_refl _,hm,by simp [hl],by rw [←hl]; simp⟩⟩
theorem Oa (hT:Qy P T) (h:Sb β X G D H O a w) {t:TypeId} {d:Nat} {ps:String} {af:Array Edge} {ty:TypeId} {gd:Option (Nat×Bool)}
  (hg:Ka ops G ⟨some d,.buildSlice t 0 ⟨[]⟩,ty,ps,af,gd⟩=some true) (hlt:okD X d=true)
  {τ:Type} {r:RT τ} {e:TypeId} {te ee:TE} (ht:Qe T t=some te) (htd:te.d=.slice e) (he:Qe T e=some ee)
  (hk:∀b a' w',isV (rSl r) (Q5 X.ok X.w.heap.size β H (tl (.slice (some ⟨b,0,none⟩) (List.length ([]:List τ)) 0) e ee.size::O) w') w' [] (.slice (some ⟨b,0,none⟩) (List.length ([]:List τ)) 0) →
   Sb β X (Zi G d (.v (.slice (some ⟨b,0,none⟩) (List.length ([]:List τ)) 0))) D H (tl (.slice (some ⟨b,0,none⟩) (List.length ([]:List τ)) 0) e ee.size::O) a' w'→wpList P ops Q rest a' w') :
  wpList P ops Q (⟨some d,.buildSlice t 0 ⟨[]⟩,ty,ps,af,gd⟩::rest) a w:=by
 have hrun:(execOp a.eval ⟨some d,.buildSlice t 0 ⟨[]⟩,ty,ps,af,gd⟩).run P w=.ok (.value (.slice (some ⟨w.heap.size,0,none⟩) 0 0)) (w.alloc (.cells #[] e)):=by
  have hun:(underlying t).run P w=.ok (.slice e) w:=by rw [Ji hT w ht,htd]
  unfold execOp
  simp [Instr.buildSlice,hun,Jy hT w he,Instr.fill,newRow]
  rw [show Array.range 0=#[] from by simp [Array.range]]
  simp
 refine Q8 (Ue h hg) (Jv hrun ?_)
 have hb:Below w.heap.size w (w.alloc (.cells #[] e)):=(Below.refl _ _).alloc (Nat.le_refl _) _
 exact hk _ _ _ (Uh.2 ⟨_,0,0,rfl,rfl,Nat.le_refl _,fun h=>absurd h (by omega)⟩)
  ((h.allocOwn hb (.inl rfl) rfl (Qs9 w 0 (Nat.zero_le _) e ee.size 0 [] (by simp) (by simp [maxLen]))).put hlt (.v _))
end
end Gd

/- Results that are rows of the caller's own; local arrays; objects that are no longer written; function values. -/
namespace Gd
open Go Go.RowKit
set_option linter.unusedVariables false
set_option linter.unusedSimpArgs false
section
variable {P:Program} {T:Tab} {β:Nat→Nat} {X:Cx} {G:GL} {D:List DF} {H:HL} {O:List TL} {a:Act} {w w':World}
variable {ops:Array Oper} {Q:Exit→Act→World→Prop} {rest:List Oper}
end
end Gd

/- Local arrays of integers. -/
namespace Gd
open Go Go.RowKit
set_option linter.unusedVariables false
set_option linter.unusedSimpArgs false
def DF.pure (p:Prop):DF:=⟨fun _ _=>p,fun h _=>h,fun h _=>h⟩
section
variable {P:Program} {T:Tab} {β:Nat→Nat} {X:Cx} {G:GL} {D:List DF} {H:HL} {O:List TL} {a:Act} {w w':World}
variable {ops:Array Oper} {Q:Exit→Act→World→Prop} {rest:List Oper}
end
end Gd

/- Division and shifts by what is not a constant. -/
namespace Gd
open Go Go.RowKit
set_option linter.unusedVariables false
set_option linter.unusedSimpArgs false
def Qog (k:IntKind) (x y:Int):Option Int:=if y=0 then none else some (k.wrap (x.tdiv y))
def Q4q (x y:Int):Option Int:=if y=0 then none else some (x.tmod y)
def Q4r (k:IntKind) (x y:Int):Option Int:=if y<0 then none else some (x.fdiv (2 ^ (min y.toNat k.bits)))
def Qta (k:IntKind) (x y:Int):Option Int:=if y<0 then none else some (k.wrap (x*2 ^ (min y.toNat k.bits)))
section
variable {P:Program} {T:Tab} {β:Nat→Nat} {X:Cx} {G:GL} {D:List DF} {H:HL} {O:List TL} {a:Act} {w w':World}
variable {ops:Array Oper} {Q:Exit→Act→World→Prop} {rest:List Oper}
theorem Qtb {t:TypeId} {k:IntKind} {u v z:Int} (h:Qog k u v=some z) (w:World):(binOp .quo t (.int k u) (.int k v)).run P w=.ok (.int k z) w:=by
 unfold Qog at h
 split at h
 ·cases h
 ·rename_i hv
  have:=Option.some.inj h; subst this
  rw [binOp_quo]; unfold Op.intDiv; rw [if_neg hv]; rfl
theorem Qtc {t:TypeId} {k:IntKind} {u v z:Int} (h:Q4q u v=some z) (w:World):(binOp .rem t (.int k u) (.int k v)).run P w=.ok (.int k z) w:=by
 unfold Q4q at h
 split at h
 ·cases h
 ·rename_i hv
  have:=Option.some.inj h; subst this
  rw [binOp_rem]; unfold Op.intDiv; rw [if_neg hv]; rfl
theorem Qtd {t:TypeId} {k k2:IntKind} {u v z:Int} (h:Q4r k u v=some z) (w:World):(binOp .shr t (.int k u) (.int k2 v)).run P w=.ok (.int k z) w:=by
 unfold Q4r at h
 split at h
 ·cases h
 ·rename_i hv
  have:=Option.some.inj h; subst this
  rw [binOp_shr]; unfold Op.shift; rw [if_neg hv]; rfl
theorem Qte {t:TypeId} {k k2:IntKind} {u v z:Int} (h:Qta k u v=some z) (w:World):(binOp .shl t (.int k u) (.int k2 v)).run P w=.ok (.int k z) w:=by
 unfold Qta at h
 split at h
 ·cases h
 ·rename_i hv
  have:=Option.some.inj h; subst this
  show (Op.shift .shl k u k2 v).run P w=_
  unfold Op.shift; rw [if_neg hv]; rfl
end
end Gd

/- Rows of the call's own whose elements are written. -/
namespace Gd
open Go Go.RowKit
set_option linter.unusedVariables false
set_option linter.unusedSimpArgs false
theorem X6 {τ:Type} {r:RT τ} {ok:Ok} {w w':World} {xs:List τ} {cs:List Value} (h:Zz r ok w xs cs) (he:Evo ok w w'):Zz r ok w' xs cs:=((Qn7 xs.length r).evo (x:=xs) ⟨rfl,h⟩ he).2
theorem Ki {τ:Type} {r:RT τ} {ok ok':Ok} {w:World} {xs:List τ} {cs:List Value} (h:Zz r ok w xs cs) (hk:∀b o,ok b o→ok' b o):Zz r ok' w xs cs:=((Qn7 xs.length r).weak (x:=xs) ⟨rfl,h⟩ hk).2
theorem Sm {τ:Type} {r:RT τ} {ok:Ok} {w:World} {xs:List τ} {cs:List Value} (h:Zz r ok w xs cs):∀c∈cs,c.oneCell'=true:=(Qn7 xs.length r).flat (x:=xs) ⟨rfl,h⟩
def ml {τ:Type} (v:Value) (e:Nat) (r:RT τ) (xs:List τ):TL where
 blks:=fun g=>v.ownBlock=some g
 cov:=fun b _=>v.ownBlock=some b
 cb:=fun h=>h
 p:=fun ok w=>Uq v=xs.length∧∃cs,w.ownsRowS 0 e r.size v (Uq v) cs∧Zz r ok w xs cs
 keep:=fun ⟨h1,cs,h2,h3⟩ hb he=>⟨h1,cs,G3 h2 hb,X6 h3 he⟩
 weak:=fun ⟨h1,cs,h2,h3⟩ hk=>⟨h1,cs,h2,Ki h3 hk⟩
 lt:=fun ⟨_,_,h,_⟩ g hg=>(h.lt g hg).2
theorem X7 {τ:Type} {r:RT τ} {ok:Ok} {w:World}:∀{xs:List τ} {cs:List Value},Zz r ok w xs cs→∀{i:Nat} {y:τ},xs[i]?=some y→r.rep ok w y ((cs.drop (i*r.size)).take r.size)
 | x::xs,cs,⟨c1,c2,e,h1,h2⟩,i,y,hy=>by
  subst e
  have hl:=r.len h1
  cases i with
  | zero =>
   simp at hy; subst hy
   rw [Nat.zero_mul,List.drop_zero,←hl,List.take_left]; exact h1
  | succ i =>
   simp at hy
   have:=X7 h2 hy
   have e:(c1++c2).drop ((i+1)*r.size)=c2.drop (i*r.size):=by
    rw [Nat.add_mul,Nat.one_mul,Nat.add_comm,←hl,←List.drop_drop,List.drop_left,hl]
   rw [e]; exact this
theorem Qoh {τ:Type} {r:RT τ} {ok:Ok} {w:World} {e:Nat} {xs:List τ} {A:Option Addr} {m c:Nat} (h:(ml (.slice A m c) e r xs).p ok w):Qb4 r ok w xs A m c:=by
 obtain ⟨hl,cs,hown,hr⟩:=h
 have hm:Uq (.slice A m c)=m:=rfl
 rw [hm] at hl hown
 have hrep:∀i x,xs[i]?=some x→∃ds,r.rep ok w x ds∧∀(j:Nat) u,ds[j]?=some u→cs[i*r.size+j]?=some u:=fun i x hx=>by
  refine ⟨_,X7 hr hx,fun j u hu=>?_⟩
  rw [List.getElem?_take] at hu
  split at hu
  ·rw [List.getElem?_drop] at hu; exact hu
  ·cases hu
 rcases hown.2 with ⟨hv,h0⟩ | ⟨g,cap,cur,fz,hv,_,_,_,hle,_⟩
 ·injection hv with e1 e2 e3
  exact ⟨cs,hown.1,hl.symm,by omega,fun _=>h0,Sm hr,fun h=>absurd h (by omega),hrep⟩
 ·have hg:(Value.slice A m c).ownBlock=some g:=by rw [hv]; rfl
  have hcell:=hown.cells hg
  injection hv with e1 e2 e3
  exact ⟨cs,hown.1,hl.symm,by omega,(fun h=>absurd (e1.symm.trans h) (by simp)),Sm hr,fun _=>⟨g,0,e1,fun j u hu=>by rw [←Xe]; exact hcell j u hu⟩,hrep⟩
theorem Oc {τ:Type} {r:RT τ} {ok:Ok} {w:World}:∀{xs:List τ} {cs:List Value},Zz r ok w xs cs→∀{i:Nat} {z:τ} {ds:List Value},i<xs.length→r.rep ok w z ds →
  Zz r ok w (xs.set i z) (cs.take (i*r.size)++ds++cs.drop (i*r.size+ds.length))
 | x::xs,cs,⟨c1,c2,e,h1,h2⟩,i,z,ds,hi,hz=>by
  subst e
  have hl:=r.len h1
  have hd:=r.len hz
  cases i with
  | zero =>
   refine ⟨ds,c2,?_,hz,h2⟩
   simp only [Nat.zero_mul,List.take_zero,List.nil_append,Nat.zero_add]
   rw [hd,←hl,List.drop_left]
  | succ i =>
   refine ⟨c1,_,?_,h1,Oc h2 (by simpa using hi) hz⟩
   have e1:(i+1)*r.size=c1.length+i*r.size:=by rw [Nat.add_mul,hl]; omega
   rw [e1,List.take_append,List.append_assoc,List.append_assoc,List.append_assoc,Nat.add_sub_cancel_left,List.take_of_length_le (by omega)]
   congr 3
   rw [Nat.add_assoc,←List.drop_drop,List.drop_left]
theorem Em {τ:Type} {r:RT τ} {ok:Ok} {w:World}:∀{xs ys:List τ} {cs ds:List Value},Zz r ok w xs cs→Zz r ok w ys ds→Zz r ok w (xs++ys) (cs++ds)
 | [],ys,cs,ds,h,h2=>by simp only [Zz] at h; subst h; simpa using h2
 | x::xs,ys,cs,ds,⟨c1,c2,e,h1,h3⟩,h2=>by subst e; exact ⟨c1,c2++ds,by rw [List.append_assoc],h1,Em h3 h2⟩
theorem Ie {τ:Type} {r:RT τ} {ok:Ok} {w:World}:∀(xs:List τ) (cs:List Value),cs.length=xs.length*r.size→(∀i x,xs[i]?=some x→∃ds,r.rep ok w x ds∧∀(j:Nat) u,ds[j]?=some u→cs[i*r.size+j]?=some u)→Zz r ok w xs cs
 | [],cs,hl,_=>by simp only [Zz]; exact List.eq_nil_of_length_eq_zero (by simpa using hl)
 | x::xs,cs,hl,h=>by
  obtain ⟨ds,hr,hd⟩:=h 0 x rfl
  have hdl:=r.len hr
  have hl':cs.length=r.size+xs.length*r.size:=by rw [hl]; simp [Nat.add_mul]; omega
  refine ⟨ds,cs.drop r.size,?_,hr,Ie xs _ (by simp; omega) fun i y hy=>?_⟩
  ·have:cs.take r.size=ds:=by
    apply List.ext_getElem?
    intro j
    rcases Nat.lt_or_ge j r.size with hj | hj
    ·rw [List.getElem?_take_of_lt hj]
     have hu:ds[j]?=some (ds[j]'(by omega)):=List.getElem?_eq_getElem _
     have:=hd j _ hu
     rw [hu,←this]; simp
    ·rw [List.getElem?_eq_none (by simp; omega),List.getElem?_eq_none (by omega)]
   rw [←this,List.take_append_drop]
  ·obtain ⟨es,he,hc⟩:=h (i+1) y (by simpa using hy)
   refine ⟨es,he,fun j u hu=>?_⟩
   rw [List.getElem?_drop]
   have:=hc j u hu
   have e:(i+1)*r.size+j=r.size+(i*r.size+j):=by rw [Nat.add_mul]; omega
   rw [←e]; exact this
section
variable {P:Program} {T:Tab} {β:Nat→Nat} {X:Cx} {G:GL} {D:List DF} {H:HL} {O:List TL} {a:Act} {w w':World}
variable {ops:Array Oper} {Q:Exit→Act→World→Prop} {rest:List Oper}
theorem Sb.mget (h:Sb β X G D H O a w) {τ:Type} {r:RT τ} {xs:List τ} {A:Option Addr} {m c:Nat} {e:Nat} (hm:ml (.slice A m c) e r xs∈O) {j:Int} {y:τ} (hy:idx xs j=some y) (hpos:0<r.size) :
  ∃g cap cur fz,A=some ⟨g,0,none⟩∧(w.heap[g]?=some (.cells cur e fz)∧Qfs fz cur.size)∧m=xs.length∧j.toNat<m∧m≤cap∧cap*r.size≤cur.size∧c=cap∧cap≤maxLen ∧
   Zz r (Q5 X.ok X.w.heap.size β H O w) w xs (cur.toList.take (m*r.size)):=by
 obtain ⟨⟨hl,cs,hown,hr⟩,_⟩:=h.own _ hm
 obtain ⟨h0,h1⟩:=Km hy
 have hlt:=(List.getElem?_eq_some_iff.1 h1).1
 simp only [Uq] at hl hown
 rcases hown.2 with ⟨hv,h0⟩ | ⟨g,cap,cur,fz,hv,_,hh,hfz,hle,hcm,hcs,htk⟩
 ·omega
 ·injection hv with e1 e2 e3
  exact ⟨g,cap,cur,fz,e1,⟨hh,hfz⟩,hl,by omega,hle,hcs,e3,hcm,by rw [htk]; exact hr⟩
theorem Qkg {cur:Array Value} {g e:Nat} {fz:Nat×Nat} (hh:w.heap[g]?=some (.cells cur e fz)) (i:Nat):w.cell? ⟨g,i,none⟩=cur.toList[i]?:=by
 simp [World.cell?,hh]
theorem Qkh (L ds:List Value) {a s M off:Nat} (h1:a+s≤M) (h2:off+ds.length≤s) (h3:M≤L.length) :
  ((L.take (a+off)++ds++L.drop (a+off+ds.length)).take M) =
   (L.take M).take a++(((L.drop a).take s).take off++ds++((L.drop a).take s).drop (off+ds.length))++(L.take M).drop (a+s):=by
 apply List.ext_getElem?
 intro i
 simp only [List.getElem?_append,List.getElem?_take,List.getElem?_drop,List.length_append,List.length_take,List.length_drop]
 have e1:min (a+off) L.length=a+off:=by omega
 have e2:min a (min M L.length)=a:=by omega
 have e3:min s (L.length - a)=s:=by omega
 have e4:min off s=off:=by omega
 rw [e1,e2,e3,e4]
 by_cases c1:i<a
 ·have c2:i<a+off:=by omega
  have c3:i<M:=by omega
  have c4:i<a+off+ds.length:=by omega
  have c5:i<a+(off+ds.length+(s - (off+ds.length))):=by omega
  simp [c1,c2,c3,c4,c5]
 ·by_cases c2:i<a+off
  ·have c3:i<M:=by omega
   have c4:i<a+off+ds.length:=by omega
   have c5:i<a+(off+ds.length+(s - (off+ds.length))):=by omega
   have c6:i - a<off:=by omega
   have c7:i - a<off+ds.length:=by omega
   have c8:i - a<s:=by omega
   have c9:a+(i - a)=i:=by omega
   simp [c1,c2,c3,c4,c5,c6,c7,c8,c9]
  ·by_cases c4:i<a+off+ds.length
   ·have c3:i<M:=by omega
    have c5:i<a+(off+ds.length+(s - (off+ds.length))):=by omega
    have c6:¬ i - a<off:=by omega
    have c7:i - a<off+ds.length:=by omega
    have c8:i - (a+off)=i - a - off:=by omega
    simp [c1,c2,c3,c4,c5,c6,c7,c8]
   ·by_cases c5:i<a+s
    ·have c3:i<M:=by omega
     have c6:i<a+(off+ds.length+(s - (off+ds.length))):=by omega
     have c7:¬ i - a<off+ds.length:=by omega
     have c8:off+ds.length+(i - a - (off+ds.length))<s:=by omega
     have c9:a+(off+ds.length+(i - a - (off+ds.length)))=i:=by omega
     have c10:a+off+ds.length+(i - (a+off+ds.length))=i:=by omega
     simp [c1,c2,c3,c4,c6,c7,c8,c9,c10]
    ·have c6:¬ i<a+(off+ds.length+(s - (off+ds.length))):=by omega
     have c9:a+s+(i - (a+(off+ds.length+(s - (off+ds.length)))))=i:=by omega
     have c10:a+off+ds.length+(i - (a+off+ds.length))=i:=by omega
     simp [c4,c6,c9,c10]
theorem Sb.upd (h:Sb β X G D H O a w) {O1 O2:List TL} {t t':TL} (hO:O=O1++t::O2) (hos:w'.os=w.os) (htp:w'.tape=w.tape) (hout:w'.output=w.output) (hsz:w.heap.size≤w'.heap.size)
  (hblk:∀b,b<w.heap.size→¬ t.blks b→w'.heap[b]?=w.heap[b]?) (hcov:∀b o,t.blks b→t.cov b o) (hb':∀g,t'.blks g→t.blks g∨w.heap.size≤g)
  (hp:Evo (Q5 X.ok X.w.heap.size β H O w) w w'→(∀b o,Q5 X.ok X.w.heap.size β H O w b o→Q5 X.ok X.w.heap.size β H (O1++t'::O2) w' b o)→t'.p (Q5 X.ok X.w.heap.size β H (O1++t'::O2) w') w') :
  Sb β X G D H (O1++t'::O2) a w':=by
 subst hO
 have hmem:t∈O1++t::O2:=by simp
 have hmine:=(h.own _ hmem).2
 have hevo:Evo (Q5 X.ok X.w.heap.size β H (O1++t::O2) w) w w':=Evo.of_blocks hsz fun b o hk=>hblk b hk.2.1 fun hb=>hk.2.2.2 t hmem (hcov b o hb)
 have hok:∀b o,Q5 X.ok X.w.heap.size β H (O1++t::O2) w b o→Q5 X.ok X.w.heap.size β H (O1++t'::O2) w' b o:=by
  rintro b o ⟨h1,h2,h3,h4⟩
  refine ⟨h1,Nat.lt_of_lt_of_le h2 hsz,h3,fun u hu hc=>?_⟩
  rcases List.mem_append.1 hu with hu | hu
  ·exact h4 u (by simp [hu]) hc
  ·rcases List.mem_cons.1 hu with rfl | hu
   ·rcases hb' b (u.cb hc) with hb | hb
    ·exact h4 t hmem (hcov b o hb)
    ·omega
   ·exact h4 u (by simp [hu]) hc
 have hpw:=List.pairwise_append.1 h.dOO
 have hpw2:=List.pairwise_cons.1 hpw.2.1
 have hoth:∀u∈O1++O2,∀g,u.blks g→¬ t.blks g∧g<w.heap.size:=by
  intro u hu g hg
  refine ⟨fun hb=>?_,h.olt (by rcases List.mem_append.1 hu with hu | hu<;>simp [hu]) hg⟩
  rcases List.mem_append.1 hu with hu | hu
  ·exact hpw.2.2 u hu t (.head _) g hg hb
  ·exact hpw2.1 u hu g hb hg
 have hnew:∀u∈O1++O2,∀g,u.blks g→¬ t'.blks g:=by
  intro u hu g hg hb
  have:=hoth u hu g hg
  rcases hb' g hb with hb | hb
  ·exact this.1 hb
  ·omega
 refine { sz:=h.sz,df:=h.df,fr:=h.fr,pn:=h.pn,tm:=h.tm,bel:=?_,dat:=(h.dat.evo hevo).weak hok,obj:=?_,own:=?_,dHH:=h.dHH,dHO:=?_,dOO:=?_ }
 ·exact h.bel.trans ⟨hos,htp,hout,hsz,fun k hk hn=>hblk k (Nat.lt_of_lt_of_le hk h.bel.size) fun hb=>(hmine k hb).elim (fun h=>by omega) hn⟩
 ·intro p hp'
  refine ⟨?_,(h.obj p hp').2⟩
  rw [hblk _ (h.hlt hp') (h.dHO p hp' t hmem)]
  exact (h.obj p hp').1
 ·intro u hu
  have keep:∀u∈O1++O2,u.p (Q5 X.ok X.w.heap.size β H (O1++t'::O2) w') w'∧∀g,u.blks g→X.mine g:=by
   intro u hu
   have hu':u∈O1++t::O2:=by rcases List.mem_append.1 hu with hu | hu<;>simp [hu]
   exact ⟨u.weak (u.keep (h.own u hu').1 (fun g hg=>hblk g (hoth u hu g hg).2 (hoth u hu g hg).1) hevo) hok,(h.own u hu').2⟩
  rcases List.mem_append.1 hu with hu | hu
  ·exact keep u (by simp [hu])
  ·rcases List.mem_cons.1 hu with rfl | hu
   ·exact ⟨hp hevo hok,fun g hg=>(hb' g hg).elim (hmine g) fun hb=>.inl (Nat.le_trans h.bel.size hb)⟩
   ·exact keep u (by simp [hu])
 ·intro p hp' u hu
  rcases List.mem_append.1 hu with hu | hu
  ·exact h.dHO p hp' u (by simp [hu])
  ·rcases List.mem_cons.1 hu with rfl | hu
   ·intro hb
    rcases hb' _ hb with hb | hb
    ·exact h.dHO p hp' t hmem hb
    ·have:=h.hlt hp'; omega
   ·exact h.dHO p hp' u (by simp [hu])
 ·refine List.pairwise_append.2 ⟨hpw.1,List.pairwise_cons.2 ⟨fun u hu g hg hg2=>hnew u (by simp [hu]) g hg2 hg,hpw2.2⟩,?_⟩
  intro u hu v hv g hg
  rcases List.mem_cons.1 hv with rfl | hv
  ·exact hnew u (by simp [hu]) g hg
  ·exact hpw.2.2 u hu v (.tail _ hv) g hg
theorem Sb.mset (h:Sb β X G D H O a w) (O1 O2:List TL) {τ:Type} {r:RT τ} {xs:List τ} {m c g:Nat} {j:Int} {y z:τ} {e:TypeId}
  (hO:O=O1++ml (.slice (some ⟨g,0,none⟩) m c) e r xs::O2) (hy:idx xs j=some y) (hpos:0<r.size) {off:Nat} {ds:List Value} (hoff:off+ds.length≤r.size) (h1:∀d∈ds,d.oneCell'=true)
  (hz:∀es,r.rep (Q5 X.ok X.w.heap.size β H O w) w y es→r.rep (Q5 X.ok X.w.heap.size β H O w) w z (es.take off++ds++es.drop (off+ds.length))) :
  ∃cur fz,(w.heap[g]?=some (.cells cur e fz)∧Qfs fz cur.size)∧j.toNat*r.size+off+ds.length≤cur.size ∧
   Sb β X G D H (O1++ml (.slice (some ⟨g,0,none⟩) m c) e r (xs.set j.toNat z)::O2) a (w.setRow g (cur.toList.take (j.toNat*r.size+off)++ds++cur.toList.drop (j.toNat*r.size+off+ds.length)).toArray):=by
 have hmem:ml (.slice (some ⟨g,0,none⟩) m c) e r xs∈O:=by rw [hO]; simp
 obtain ⟨g',cap,cur,fz,hA,⟨hh,hfz⟩,hm,hj,hle,hcs,hc,hcm,hr⟩:=h.mget hmem hy hpos
 injection hA with hA; injection hA with hA; subst hA
 have hj1:(j.toNat+1)*r.size≤m*r.size:=Nat.mul_le_mul_right _ hj
 have hj2:m*r.size≤cap*r.size:=Nat.mul_le_mul_right _ hle
 rw [Nat.add_mul] at hj1
 have hcl:cap*r.size≤cur.toList.length:=by simpa using hcs
 have hlen:j.toNat*r.size+off+ds.length≤cur.size:=by omega
 refine ⟨cur,fz,⟨hh,hfz⟩,hlen,?_⟩
 have hset:=setRow_heap w g cur (cur.toList.take (j.toNat*r.size+off)++ds++cur.toList.drop (j.toNat*r.size+off+ds.length)).toArray e _ hh
 refine h.upd (t':=ml (.slice (some ⟨g,0,none⟩) m c) e r (xs.set j.toNat z)) hO rfl rfl rfl (by simp) (fun b hb hn=>setRow_other _ _ _ _ fun e=>hn (by subst e; rfl)) (fun b o hb=>hb) (fun g hg=>.inl hg) fun hevo hok=>?_
 have hrep:=X7 hr (Km hy).2
 have hdrop:(cur.toList.take (m*r.size)).drop (j.toNat*r.size)=(cur.toList.drop (j.toNat*r.size)).take (m*r.size - j.toNat*r.size):=by rw [List.drop_take]
 have e1:((cur.toList.take (m*r.size)).drop (j.toNat*r.size)).take r.size=(cur.toList.drop (j.toNat*r.size)).take r.size:=by
  rw [hdrop,List.take_take]; congr 1; omega
 rw [e1] at hrep
 have hnew:=hz _ hrep
 have hL:((cur.toList.drop (j.toNat*r.size)).take r.size).length=r.size:=r.len hrep
 refine ⟨by simp [Uq,hm],_,⟨?_,.inr ⟨g,cap,_,fz,by rw [hc]; rfl,Nat.zero_le _,hset,by rw [List.size_toArray,List.length_append,List.length_append,List.length_take,List.length_drop,Nat.min_eq_left (by omega),show j.toNat*r.size+off+ds.length+(cur.toList.length - (j.toNat*r.size+off+ds.length))=cur.size by simp; omega]; exact hfz,hle,hcm,by rw [List.size_toArray,List.length_append,List.length_append,List.length_take,List.length_drop]; omega,rfl⟩⟩,?_⟩
 ·simp only [Uq,List.length_take,List.length_append,List.length_drop]; omega
 ·have h2:=Oc (Ki (X6 hr hevo) hok) (i:=j.toNat) (z:=z) (by omega) (r.weak (r.evo hnew hevo) hok)
  simp only [Uq]
  have hfin:=Qkh cur.toList ds (a:=j.toNat*r.size) (s:=r.size) (M:=m*r.size) (off:=off) (by omega) hoff (by omega)
  rw [hfin]
  have hlen2:(List.take off (List.take r.size (List.drop (j.toNat*r.size) cur.toList))++ds++List.drop (off+ds.length) (List.take r.size (List.drop (j.toNat*r.size) cur.toList))).length=r.size:=by
   simp; omega
  rw [hlen2] at h2
  exact h2
def mkL {α:Type} (bytes:Nat) (l c:Int) (z:α):Option (List α):=if 0≤l∧l≤c∧(bytes:Int)*c≤281474976710656 then some (List.replicate l.toNat z) else none
theorem Od (zc:List Value):∀l:Nat,((List.range (l*zc.length)).map fun j=>zc.getD (j % zc.length) undef)=(List.replicate l zc).flatten
 | 0=>by simp
 | l+1=>by
  rw [Nat.add_mul,Nat.one_mul,List.range_add,List.map_append,Od zc l,List.replicate_succ',List.flatten_append]
  congr 1
  simp only [List.map_map,List.flatten_cons,List.flatten_nil,List.append_nil]
  apply List.ext_getElem
  ·simp
  ·intro i h1 h2
   simp only [List.getElem_map,List.getElem_range,Function.comp]
   have hlt:i<zc.length:=h2
   rw [Nat.mul_comm,Nat.mul_add_mod,Nat.mod_eq_of_lt hlt]
   simp [hlt]
theorem Qb5 {τ:Type} {r:RT τ} {ok:Ok} {z:τ} {zc:List Value} (h:r.rep ok w z zc):∀l,Zz r ok w (List.replicate l z) (List.replicate l zc).flatten
 | 0=>by simp [Zz]
 | l+1=>⟨zc,(List.replicate l zc).flatten,by simp [List.replicate_succ],h,Qb5 h l⟩
theorem Sn (hT:Qy P T) (h:Sb β X G D H O a w) {t:TypeId} {lo co:Operand} {d:Nat} {ps:String} {af:Array Edge} {ty:TypeId} {gd:Option (Nat×Bool)}
  (hg:Ka ops G ⟨some d,.makeSlice t lo co,ty,ps,af,gd⟩=some true) (hlt:okD X d=true)
  {τ:Type} {r:RT τ} {z:τ} {zs:List τ} {kl kc:IntKind} {l c:Int} {e:TypeId} {te ee:TE} (ht:Qe T t=some te) (htd:te.d=.slice e) (he:Qe T e=some ee) (hs:ee.size=r.size)
  (hzl:Nat.beq (Qh ee.z).length ee.size=true) (hby:Nat.ble 1 ee.bytes=true) (hz:∀ok w,r.rep ok w z (Qh ee.z))
  (hl:gv G lo=some (.v (.int kl l))) (hc:gv G co=some (.v (.int kc c))) (hmk:mkL ee.bytes l c z=some zs)
  (hk:∀b a' w',Sb β X (Zi G d (.v (.slice (some ⟨b,0,none⟩) zs.length c.toNat))) D H (ml (.slice (some ⟨b,0,none⟩) zs.length c.toNat) e r zs::O) a' w'→wpList P ops Q rest a' w') :
  wpList P ops Q (⟨some d,.makeSlice t lo co,ty,ps,af,gd⟩::rest) a w:=by
 unfold mkL at hmk
 split at hmk
 ·rename_i hcd
  obtain ⟨h0,h1,h2⟩:=hcd
  have hzs:zs=List.replicate l.toNat z:=(Option.some.inj hmk).symm
  have hlen:zs.length=l.toNat:=by rw [hzs]; simp
  have hu:P.underlying t=some (.slice e):=by rw [(Js hT ht).2,htd]
  obtain ⟨i,hi,hz',hsi,hbi⟩:=Kt hT he
  have hby':1≤ee.bytes:=Nat.le_of_ble_eq_true hby
  have hc63:c≤281474976710656:=by
   have:(1:Int)*c≤(ee.bytes:Int)*c:=Int.mul_le_mul_of_nonneg_right (by omega) (by omega)
   omega
  have hzz:=Nat.eq_of_beq_eq_true hzl
  have hr:=run_make (P:=P) w t e i ee.z hu hi hz' kl kc l c h0 h1 (by rw [hbi]; exact h2) (by omega)
  have hrun:(execOp a.eval ⟨some d,.makeSlice t lo co,ty,ps,af,gd⟩).run P w=.ok (.value (.slice (some ⟨w.heap.size,0,none⟩) zs.length c.toNat)) (w.alloc (.cells (madeCells ee.z.cells (c.toNat*i.size)) e)):=by
   unfold execOp
   simp only [h.ev hl,h.ev hc,Vs]
   simp [hr,hlen]
  refine Q8 (Ue h hg) (Jv hrun ?_)
  have hb:Below w.heap.size w (w.alloc (.cells (madeCells ee.z.cells (c.toNat*i.size)) e)):=(Below.refl _ _).alloc (Nat.le_refl _) _
  have hcells:(madeCells ee.z.cells (c.toNat*i.size)).toList=(List.replicate c.toNat (Qh ee.z)).flatten:=by
   rw [←Od,hzz,hsi]
   unfold madeCells
   rw [Yq] at hzz ⊢
   simp only [Array.toList_map,Array.toList_range]
   apply List.map_congr_left
   intro q hq
   have hq':q<c.toNat*ee.size:=by simpa using hq
   have hpos:0<ee.size:=by
    rcases Nat.eq_zero_or_pos ee.size with h0 | h0
    ·rw [h0] at hq'; omega
    ·exact h0
   have hsz:ee.z.cells.size=ee.size:=by rw [←hzz]; simp
   have hm:q % ee.z.cells.size<ee.z.cells.size:=Nat.mod_lt _ (by omega)
   rw [getElem!_pos ee.z.cells _ hm]
   simp only [List.getD_eq_getElem?_getD]
   have hm2:q % ee.size<ee.z.cells.toList.length:=by rw [hsz] at hm; simpa [hsz] using hm
   rw [List.getElem?_eq_getElem hm2]
   simp [hsz]
  refine hk _ _ _ ((h.allocTL hb (t:=ml (.slice (some ⟨w.heap.size,0,none⟩) zs.length c.toNat) e r zs) (fun g hg=>?_) ⟨rfl,(List.replicate l.toNat (Qh ee.z)).flatten,⟨?_,.inr ⟨w.heap.size,c.toNat,_,(0,0),rfl,Nat.zero_le _,heap_alloc_new w _,.inl rfl,?_,?_,?_,?_⟩⟩,?_⟩).put hlt (.v _))
  ·have hg:some w.heap.size=some g:=hg
   injection hg with hg; omega
  ·simp [Uq,hlen,hzz,hs]
  ·simp only [Uq]; omega
  ·rw [Hr]; omega
  ·exact Nat.le_of_eq (by rw [size_madeCells,hsi,hs])
  ·simp only [Uq]
   rw [hcells,hlen]
   have e1:c.toNat=l.toNat+(c.toNat - l.toNat):=by omega
   rw [e1,←List.replicate_append_replicate,List.flatten_append]
   have e2:l.toNat*r.size=(List.replicate l.toNat (Qh ee.z)).flatten.length:=by simp [hzz,hs]
   rw [e2,List.take_left]
  ·rw [hzs]; exact Qb5 (hz _ _) _
 ·cases hmk
end
end Gd

/- Rows that are appended to, frozen, lent to a call. -/
namespace Gd
open Go Go.RowKit
set_option linter.unusedVariables false
set_option linter.unusedSimpArgs false
section
variable {P:Program} {T:Tab} {β:Nat→Nat} {X:Cx} {G:GL} {D:List DF} {H:HL} {O:List TL} {a:Act} {w w':World}
variable {ops:Array Oper} {Q:Exit→Act→World→Prop} {rest:List Oper}
theorem Sb.addNilM (h:Sb β X G D H O a w) (e:Nat) {τ:Type} (r:RT τ):Sb β X G D H (ml (.slice none 0 0) e r []::O) a w :=
 h.allocTL (Below.refl _ _) (fun g hg=>by have hg:(none:Option Nat)=some g:=hg; cases hg) ⟨rfl,[],World.ownsRowS_nil _ _ _ _,rfl⟩
theorem Sb.freeze (h:Sb β X G D H O a w) {τ:Type} {r:RT τ} {xs:List τ} {A:Option Addr} {c:Nat} {e:Nat} {O2:List TL} (hO:O=ml (.slice A xs.length c) e r xs::O2) (hpos:Nat.ble 1 r.size=true) :
  Sb β X G (DF.v (rSl r) xs (.slice A xs.length c)::D) H (tl (.slice A xs.length c) e r.size::O2) a w:=by
 subst hO
 have hmem:ml (.slice A xs.length c) e r xs∈ml (.slice A xs.length c) e r xs::O2:=.head _
 obtain ⟨⟨hl,cs,hown,hr⟩,hmine⟩:=h.own _ hmem
 have hok:∀b o,Q5 X.ok X.w.heap.size β H (ml (.slice A xs.length c) e r xs::O2) w b o→Q5 X.ok X.w.heap.size β H (tl (.slice A xs.length c) e r.size::O2) w b o:=by
  rintro b o ⟨h1,h2,h3,h4⟩
  refine ⟨h1,h2,h3,fun u hu hc=>?_⟩
  rcases List.mem_cons.1 hu with rfl | hu
  ·exact h4 _ (.head _) hc.1
  ·exact h4 u (.tail _ hu) hc
 have hpw:=List.pairwise_cons.1 h.dOO
 refine { sz:=h.sz,df:=h.df,fr:=h.fr,pn:=h.pn,tm:=h.tm,bel:=h.bel,dat:=⟨?_,h.dat.weak hok⟩,obj:=h.obj,own:=fun u hu=>?_,dHH:=h.dHH,dHO:=fun p hp u hu=>?_,dOO:=List.pairwise_cons.2 ⟨fun u hu g hg=>hpw.1 u hu g hg,hpw.2⟩ }
 ·refine Uh.2 ⟨A,xs.length,c,rfl,rfl,?_,fun h0=>?_⟩
  ·rcases hown.2 with ⟨hv,h0⟩ | ⟨g,cap,cur,fz,hv,_,_,_,hle,_⟩
   ·simp only [Uq] at h0; omega
   ·injection hv with e1 e2 e3; simp only [Uq] at hle; omega
  ·rcases hown.2 with ⟨hv,h1⟩ | ⟨g,cap,cur,fz,hv,_,hh,hfz,hle,hcm,hcs,htk⟩
   ·simp only [Uq] at h1; omega
   ·injection hv with e1 e2 e3
    simp only [Uq] at hle htk
    refine ⟨g,0,e1,fun i x hx=>?_⟩
    have hi:=(List.getElem?_eq_some_iff.1 hx).1
    have hrep:=X7 hr hx
    refine ⟨_,r.weak hrep hok,fun j u hu=>?_⟩
    have hj:j<r.size:=by have:=(List.getElem?_eq_some_iff.1 hu).1; rw [r.len hrep] at this; exact this
    have hgb:(Value.slice A xs.length c).ownBlock=some g:=by rw [e1]; rfl
    rw [Nat.zero_add]
    refine ⟨⟨X.mine_ok (hmine g hgb) _,Yl hh,fun p hp e2=>h.dHO p hp _ hmem (by rw [e2]; exact hgb),fun u' hu' hc=>?_⟩,?_⟩
    ·rcases List.mem_cons.1 hu' with rfl | hu'
     ·have:=hc.2
      simp only [Uq] at this
      have:(i+1)*r.size≤xs.length*r.size:=Nat.mul_le_mul_right _ hi
      rw [Nat.add_mul] at this
      omega
     ·exact hpw.1 u' hu' g hgb (u'.cb hc)
    ·rw [Qkg hh]
     rw [List.getElem?_take_of_lt hj,List.getElem?_drop,←htk,List.getElem?_take] at hu
     split at hu
     ·exact hu
     ·cases hu
 ·rcases List.mem_cons.1 hu with rfl | hu
  ·exact ⟨⟨cs,hown⟩,hmine⟩
  ·exact ⟨u.weak (h.own u (.tail _ hu)).1 hok,(h.own u (.tail _ hu)).2⟩
 ·rcases List.mem_cons.1 hu with rfl | hu
  ·exact fun hg=>(h.dHO p hp _ hmem) hg
  ·exact h.dHO p hp u (.tail _ hu)
theorem Ad (hT:Qy P T) (h:Sb β X G D H O a w) (O1 O2:List TL) {t:TypeId} {s x:Operand} {d:Nat} {ps:String} {af:Array Edge} {ty:TypeId} {gd:Option (Nat×Bool)}
  (hg:Ka ops G ⟨some d,.call ⟨.builtin .append,⟨[s,x]⟩,⟨[t,t]⟩⟩,ty,ps,af,gd⟩=some true) (hlt:okD X d=true)
  {τ:Type} {r:RT τ} {xs ys zs:List τ} {A:Option Addr} {A2:Option Addr} {m c m2 c2:Nat} {e:TypeId} {te ee:TE} (ht:Qe T t=some te) (htd:te.d=.slice e) (he:Qe T e=some ee) (hs:ee.size=r.size)
  (hz:Nat.beq (Qh ee.z).length ee.size=true) (hsz:Nat.ble 1 ee.size=true) (hby:Nat.ble 1 ee.bytes=true)
  (hO:O=O1++ml (.slice A m c) e r xs::O2) (hs1:gv G s=some (.v (.slice A m c))) (hx1:gv G x=some (.v (.slice A2 m2 c2)))
  (hDy:Qb4 r (Q5 X.ok X.w.heap.size β H O w) w ys A2 m2 c2) (happ:app ee.bytes xs ys=some zs)
  (hk:∀A' c' a' w',Sb β X (Zi G d (.v (.slice A' zs.length c'))) D H (O1++ml (.slice A' zs.length c') e r zs::O2) a' w'→wpList P ops Q rest a' w') :
  wpList P ops Q (⟨some d,.call ⟨.builtin .append,⟨[s,x]⟩,⟨[t,t]⟩⟩,ty,ps,af,gd⟩::rest) a w:=by
 obtain ⟨hbytes,rfl⟩:=Di happ
 have hmem:ml (.slice A m c) e r xs∈O:=by rw [hO]; simp
 obtain ⟨⟨hl,xs0,hown,hr⟩,hmine⟩:=h.own _ hmem
 obtain ⟨csy,hcy1,hyl,hmc2,hA2,hcy2,hcy3,hcy4⟩:=hDy
 have hzl:=Nat.eq_of_beq_eq_true hz
 have hsz':0<ee.size:=Nat.le_of_ble_eq_true hsz
 have hby':0<ee.bytes:=Nat.le_of_ble_eq_true hby
 have hnews:∀ad,A2=some ad→∀j u,csy[j]?=some u→w.cell? (ad.add j)=some u:=by
  intro ad had j u hu
  have hj:=(List.getElem?_eq_some_iff.1 hu).1
  have hm2:0<m2:=by
   rcases Nat.eq_zero_or_pos m2 with h0 | h0
   ·rw [h0,Nat.zero_mul] at hcy1; omega
   ·exact h0
  obtain ⟨b,o,hA',hc⟩:=hcy3 hm2
  rw [hA'] at had
  injection had with had
  subst had
  rw [Xe]
  exact hc j u hu
 simp only [Uq] at hown hl
 rw [←hs] at hown
 obtain ⟨v',w1,hrun,hown',hgrow,hblk⟩:=Dj (P:=P) (w:=w) (ty:=ty) hT ht htd he hzl hsz' hby' hown (Nat.zero_le _) (k:=m2) (c:=c2) (A:=A2) (news:=csy) (by rw [hs]; exact hcy1) hA2 hnews hcy2 (by rw [hl,←hyl]; exact hbytes)
 have hrun':(execOp a.eval ⟨some d,.call ⟨.builtin .append,⟨[s,x]⟩,⟨[t,t]⟩⟩,ty,ps,af,gd⟩).run P w=.ok (.value v') w1:=by
  unfold execOp
  have hm:(Array.mk [s,x]).map a.eval=⟨[.slice A m c,.slice A2 m2 c2]⟩:=by simp [h.ev hs1,h.ev hx1,Vs]
  simp [resolve,hm,invoke,builtin,hrun]
 have hform:∃A' c',v'=.slice A' (m+m2) c':=by
  rcases hown'.2 with ⟨rfl,h0⟩ | ⟨g,cap,cur,fz,rfl,_⟩
  ·exact ⟨none,0,by rw [h0]⟩
  ·exact ⟨_,cap,rfl⟩
 obtain ⟨A',c',rfl⟩:=hform
 have hlen:m+m2=(xs++ys).length:=by rw [List.length_append,hl,hyl]
 refine Q8 (Ue h hg) (Jv hrun' ?_)
 have hS:Sb β X G D H (O1++ml (.slice A' (m+m2) c') e r (xs++ys)::O2) a w1:=by
  refine h.upd hO hgrow.os hgrow.tape hgrow.output hgrow.size (fun b hb hn=>hgrow.block b hb fun e=>hn e.symm) (fun b o hb=>hb) (fun g hg=>?_) fun hevo hok=>?_
  ·rcases hblk with he1 | ⟨he1,_⟩
   ·exact .inl (by have hg:(Value.slice A' (m+m2) c').ownBlock=some g:=hg; rw [he1] at hg; exact hg)
   ·have hg:(Value.slice A' (m+m2) c').ownBlock=some g:=hg
    rw [he1] at hg; injection hg with hg; exact .inr (by omega)
  ·refine ⟨hlen,xs0++csy,by rw [←hs]; exact hown',Em (Ki (X6 hr hevo) hok) (Ki (X6 ?_ hevo) hok)⟩
   exact Ie ys csy (by rw [hcy1,hyl]) hcy4
 have:=hk A' c' (a.put (some d) (.slice A' (m+m2) c')) w1
 rw [←hlen] at this
 exact this (hS.put hlt (.v _))
end
end Gd
namespace Gd
open Go Go.RowKit
section
variable {P:Program} {T:Tab} {β:Nat→Nat} {X:Cx} {G:GL} {D:List DF} {H:HL} {O:List TL} {a:Act} {w w':World}
variable {ops:Array Oper} {Q:Exit→Act→World→Prop} {rest:List Oper}
def Qtf (v:Value):List Nat:=match v.ownBlock with
 | some g=>[g]
 | none=>[]
theorem Oe {v:Value} {g:Nat}:g∈Qtf v↔v.ownBlock=some g:=by
 unfold Qtf
 cases h:v.ownBlock with
 | none=>simp
 | some b=>simp [eq_comm]
def R0:Value→World→Prop:=fun v _=>v=.tuple ⟨[]⟩
def Ma (Ts:List TL) (L:List Nat) (ok:Ok) (w:World):Prop :=
 (∀t∈Ts,t.p ok w∧(∀g,t.blks g→g∈L)∧∀g o,t.blks g→¬ ok g o)∧(Ts.Pairwise fun s t=>∀g,s.blks g→¬ t.blks g)∧∀g∈L,∃t∈Ts,t.blks g
theorem Qki {f:FuncId} {fn:Func} {c:Code} {vs:List Value} {R:Value→World→Prop} {ok:Ok} {n:Nat} {L:List Nat} {O:List TL} (hok:∀b o,ok b o→b<w.heap.size)
  (hf:P.funcs[f]?=some fn) (hb:fn.body=some c) (hn:fn.ntmps=n) (hle:Nat.ble vs.length n=true) {D:List DF} (hD:Bo ok w D) (hO:Ma O L ok w)
  (h:∀a,Sb (fun _=>0) (cxL L n ok w) (Qb0 vs 0) D [] O a w→c.wp P (bodyPost P fn (Qag L w R)) a w):Calls P f ⟨vs⟩ w (Qag L w R):=by
 refine calls_of_wp hf hb (h _ ?_)
 have hle':=Nat.le_of_ble_eq_true hle
 have hk:∀b o,ok b o→Q5 (okL L ok) w.heap.size (fun _=>0) [] O w b o:=fun b o hbo=>⟨.inl (.inl hbo),hok b o hbo,by simp,fun t ht hc=>(hO.1 t ht).2.2 b o (t.cb hc) hbo⟩
 refine { sz:=by simp [hn]; omega,df:=rfl,fr:=by simp,pn:=by simp,tm:=?_,bel:=Vq.refl _ _ _,dat:=hD.weak hk,obj:=by simp,own:=fun t ht=>⟨t.weak (hO.1 t ht).1 hk,fun g hg=>.inr ((hO.1 t ht).2.1 g hg)⟩,dHH:=by simp,dHO:=by simp,dOO:=hO.2.1 }
 intro p hp
 obtain ⟨j,v,rfl,hv⟩:=Qb1 hp
 have hj:=(List.getElem?_eq_some_iff.1 hv).1
 simp only [Nat.zero_add,Vs]
 rw [Array.getElem?_append_left (by simpa using hj)]
 simpa using hv
theorem Sb.melt0 {A:Option Addr} {c e:Nat} {τ:Type} {r:RT τ} {O2:List TL} (h:Sb β X G D H (tl (.slice A 0 c) e r.size::O2) a w):Sb β X G D H (ml (.slice A 0 c) e r []::O2) a w:=by
 have hok:∀b o,Q5 X.ok X.w.heap.size β H (tl (.slice A 0 c) e r.size::O2) w b o→Q5 X.ok X.w.heap.size β H (ml (.slice A 0 c) e r []::O2) w b o:=by
  rintro b o ⟨h1,h2,h3,h4⟩
  refine ⟨h1,h2,h3,fun u hu hc=>?_⟩
  rcases List.mem_cons.1 hu with rfl | hu
  ·exact h4 _ (.head _) ⟨hc,by simp [Uq]⟩
  ·exact h4 u (.tail _ hu) hc
 obtain ⟨⟨cs,hown⟩,hmine⟩:=h.own _ (.head _)
 have hpw:=List.pairwise_cons.1 h.dOO
 have hcs:cs=[]:=by
  have:=hown.1
  simp only [Uq,Nat.zero_mul] at this
  exact List.eq_nil_of_length_eq_zero this
 refine { sz:=h.sz,df:=h.df,fr:=h.fr,pn:=h.pn,tm:=h.tm,bel:=h.bel,dat:=h.dat.weak hok,obj:=h.obj,own:=fun u hu=>?_,dHH:=h.dHH,dHO:=fun p hp u hu=>?_,dOO:=List.pairwise_cons.2 ⟨fun u hu g hg=>hpw.1 u hu g hg,hpw.2⟩ }
 ·rcases List.mem_cons.1 hu with rfl | hu
  ·exact ⟨⟨rfl,cs,hown,by subst hcs; rfl⟩,hmine⟩
  ·exact ⟨u.weak (h.own u (.tail _ hu)).1 hok,(h.own u (.tail _ hu)).2⟩
 ·rcases List.mem_cons.1 hu with rfl | hu
  ·exact fun hg=>h.dHO p hp _ (.head _) hg
  ·exact h.dHO p hp u (.tail _ hu)
end
end Gd

/- Results of a call's own, as rows that will be written: for elements that hold no addresses. -/
namespace Gd
open Go Go.RowKit
set_option linter.unusedVariables false
set_option linter.unusedSimpArgs false
section
variable {P:Program} {T:Tab} {β:Nat→Nat} {X:Cx} {G:GL} {D:List DF} {H:HL} {O:List TL} {a:Act} {w w':World}
variable {ops:Array Oper} {Q:Exit→Act→World→Prop} {rest:List Oper}
end
end Gd

/- From a statement's arguments to typed values, and back to the statement. -/
namespace Gd
open Go Go.RowKit Go.WideShapes Go.ChangeShapes
set_option linter.unusedVariables false
set_option linter.unusedSimpArgs false
def Bt {τ:Type} (P:Program) (r:RT τ) (t:TypeId) (good:τ→Prop):Prop :=
 P.cellsOf t=r.size∧(∀{w:World} {rc:Reach} {b:Nat} {v:Value},Value.okWide P w rc b t v→(r.agg=true→∃cs,v=.agg cs)∧(r.agg=false→∃c,v.cells=#[c]∧v=c)) ∧
 ∀{H:Type} (enc:TypeId×Value→H) (w:World) (n:Nat) (cs:List Value) (x:DataW H×List MemPlace),
  DataW.trod enc P w 0 (fun _=>true) true n t cs=some x→∃y,r.rep (lt w) w y cs∧good y
def Qoi (k:IntKind) (n:Int):Prop:=k.min≤n∧n≤k.max
def Qoj (s:Str):Prop:=s.length≤maxLen
def Q89 {τ:Type} (g:τ→Prop) (l:List τ):Prop:=l.length≤maxLen∧∀x∈l,g x
section
variable {P:Program}
theorem Qkj {t:TypeId} {k:IntKind} (ht:P.underlying t=some (.int k)) (hc:P.cellsOf t=1):Bt P (E2 k) t (Qoi k):=by
 refine ⟨hc,fun hv=>⟨fun h=>(nomatch h),fun _=>?_⟩,fun enc w n cs x h=>?_⟩
 ·obtain ⟨n,rfl⟩:=okWide_int ht hv
  exact ⟨_,rfl,rfl⟩
 ·obtain ⟨m,rfl,_,hw⟩:=DataW.trod_int ht h
  exact ⟨m,rfl,by simpa [Lit.wf,Qoi] using hw⟩
theorem Qkk {t:TypeId} (ht:P.underlying t=some .string) (hc:P.cellsOf t=1):Bt P Q4p t Qoj:=by
 refine ⟨hc,fun hv=>⟨fun h=>(nomatch h),fun _=>?_⟩,fun enc w n cs x h=>?_⟩
 ·obtain ⟨n,rfl⟩:=okWide_string ht hv
  exact ⟨_,rfl,rfl⟩
 ·obtain ⟨s,rfl,_,hs⟩:=DataW.trod_string ht h
  refine ⟨s.data.toList,?_,by simpa [Qoj] using hs⟩
  show [Value.string s]=[Yu s.data.toList]
  simp [Yu]
theorem Bt.fld {τ:Type} {r:RT τ} {t:TypeId} {g:τ→Prop} (ho:Bt P r t g) {H:Type} {enc:TypeId×Value→H} {w:World} {n:Nat} {cs:List Value} {fs:Array Field} {xs:List (DataW H×List MemPlace)}
  (hlen:xs.length=fs.size) (hf:∀(i:Nat) (f:Field),fs[i]?=some f→DataW.trod enc P w 0 (fun _=>true) true n f.type ((cs.drop f.offset).take (P.cellsOf f.type))=xs[i]?)
  (i:Nat) (o:Nat) {f:Field} (hi:fs[i]?=some f) (ht:f.type=t) (hof:f.offset=o):∃y,r.rep (lt w) w y ((cs.drop o).take r.size)∧g y:=by
 have h1:=hf i f hi
 have hlt:=(Array.getElem?_eq_some_iff.1 hi).1
 rw [List.getElem?_eq_getElem (by omega),ht,hof,ho.1] at h1
 exact ho.2.2 enc w n _ _ h1
theorem Bt.arg {τ:Type} {r:RT τ} {t:TypeId} {g:τ→Prop} (ho:Bt P r t g) {H:Type} {enc:TypeId×Value→H} {w:World} {rc:Reach} {b:Nat} {v:Value} {d:DataW H} {ps:List MemPlace}
  (hv:Value.okWide P w rc b t v) (h:DataW.Trod enc P w 0 (fun _=>true) true t v d ps):∃y,isV r (lt w) w y v∧g y:=by
 obtain ⟨n,hn⟩:=h
 obtain ⟨y,hy,hg⟩:=ho.2.2 enc w n _ _ hn
 refine ⟨y,⟨_,hy,?_⟩,hg⟩
 unfold RT.val
 cases ha:r.agg with
 | true =>
  obtain ⟨cs,rfl⟩:=(ho.2.1 hv).1 ha
  simp [Value.cells]
 | false =>
  obtain ⟨c,hc,rfl⟩:=(ho.2.1 hv).2 ha
  rw [hc]; simp
end
section
variable {H:Type} {enc:TypeId×Value→H} {P:Program} {W:World} {base:Nat} {vs:List String}
theorem Q9a {t1 t2:TypeId} {args:Array Value} {ds gs:List (DataW H)} {before:List MemPlace} {ts:Array TypeId} (hts:ts=#[t1,t2])
  (hval:∀(j:Nat) t v,ts[j]?=some t→args[j]?=some v→Value.okWide P W .any base t v) (hW:DataW.Whole enc P ts.toList vs false W args.toList ds gs before)
  {τ1 τ2:Type} {r1:RT τ1} {r2:RT τ2} {g1:τ1→Prop} {g2:τ2→Prop} (ho1:Bt P r1 t1 g1) (ho2:Bt P r2 t2 g2) :
  ∃v1 v2 y1 y2,args=⟨[v1,v2]⟩∧isV r1 (lt W) W y1 v1∧g1 y1∧isV r2 (lt W) W y2 v2∧g2 y2:=by
 subst hts
 obtain ⟨p,q,hA,_⟩:=hW
 obtain ⟨v1,vs1,d1,ds1,p1,q1,hargs,rfl,rfl,h1,k1⟩:=trodAll_cons hA
 obtain ⟨v2,vs2,d2,ds2,p2,q2,rfl,rfl,rfl,h2,k2⟩:=trodAll_cons k1
 obtain ⟨rfl,rfl,rfl⟩:=trodAll_nil k2
 obtain rfl:args=⟨[v1,v2]⟩:=by cases args; simp_all
 obtain ⟨y1,hy1,hg1⟩:=ho1.arg (hval 0 t1 v1 rfl rfl) h1
 obtain ⟨y2,hy2,hg2⟩:=ho2.arg (hval 1 t2 v2 rfl rfl) h2
 exact ⟨v1,v2,y1,y2,rfl,hy1,hg1,hy2,hg2⟩
theorem C5 (hl:laidOutB P=true) {W':World} {sp:Nat→Bool}:∀{ts:List TypeId} {vs:List Value} {ds:List (DataW H)} {ps:List MemPlace},
  (ts.all fun t=>P.readableRec t&&decide (t<P.types.size))=true→DataW.TrodAll enc P W 0 (fun _=>true) true ts vs ds ps→(∀p∈ps,W.sameAt W' p)→(∀p∈ps,sp p.block=true)→DataW.TrodAll enc P W' 0 sp true ts vs ds ps
 | [],[],[],_,_,h,_,_=>h
 | t::ts,v::vs,d::ds,ps,hr,⟨p,q,h,hs,e⟩,h1,h2=>by
  subst e
  simp only [List.all_cons,Bool.and_eq_true,decide_eq_true_eq] at hr
  exact ⟨p,q,WideElems.Trod_stays hl hr.1.1 hr.1.2 h (fun x hx=>h1 x (List.mem_append.2 (.inl hx))) (fun x hx=>h2 x (List.mem_append.2 (.inl hx))),
   C5 hl hr.2 hs (fun x hx=>h1 x (List.mem_append.2 (.inr hx))) (fun x hx=>h2 x (List.mem_append.2 (.inr hx))),rfl⟩
theorem Mc {w:World} {sp:Nat→Bool} {hd:Bool}:∀{ts:List TypeId} {vs:List Value} {ds:List (DataW H)} {ps:List MemPlace},DataW.TrodAll enc P w base sp hd ts vs ds ps→ds.length=ts.length
 | [],[],[],_,_=>rfl
 | _::_,_::_,_::_,_,⟨_,_,_,hs,_⟩=>congrArg (·+1) (Mc hs)
theorem Qok {f:FuncId} {fn:Func} {s:ChangeSpec} {args:Array Value} {ds gs:List (DataW H)} {before:List MemPlace} {tb:TypeId}
  (hres:fn.resultTypes=#[tb]) (hb:P.underlying tb=some .bool) (hv:s.vars=[]) (hlaid:laidOutB P=true)
  (hread:(fn.params.toList.all fun t=>P.readableRec t&&decide (t<P.types.size))=true)
  (hspec:∀d:List (DataW H),d.length=fn.params.size→s.fn H d={ results:=[.lit (.bool true)],args:=d })
  (hW:DataW.Whole enc P fn.params.toList s.vars false W args.toList ds gs before)
  (hcall:Calls P f args W (Ret W (R1 Qbt (lt W) W true))) :
  Calls P f args W fun e W'=>∃v,e=.returned v∧s.post enc P fn false true false false W args v W':=by
 have hW':=hW
 obtain ⟨p,q,hA,hV,rfl,hfz,hnd⟩:=hW
 rw [hv] at hV
 obtain ⟨rfl,rfl⟩:=trodVars_none hV
 have hlen:=Mc hA
 have hs:s.fn H (ds++[])={ results:=[.lit (.bool true)],args:=ds }:=by
  rw [List.append_nil]; exact hspec ds (by simpa using hlen)
 refine hcall.mono ?_
 rintro e W' ⟨v,rfl,hr,hbel⟩
 have hbel:=hbel.nil
 obtain rfl:=N1.1 hr
 simp only [List.append_nil] at hW'
 have hlt:∀p'∈p,p'.block<W.heap.size:=fun p' hp=>hW'.lt p' hp
 refine ⟨_,rfl,?_⟩
 refine ⟨ds,[],p,[],p,[],hW',?_,?_,?_,World.keptBut_mono (fun p' hp=>⟨hp,by simpa using hp⟩) (hbel.frame (·∈p)),fun h=>by cases h⟩
 ·rw [hs,hres]
  exact trodAll_mk1 (shut_bool hb _)
 ·rw [hs]
  exact C5 hlaid hread hA (fun x hx=>hbel.same (hlt x hx)) (fun x hx=>by simpa using hlt x hx)
 ·rw [hs,hv]
  rfl
end
end Gd

/- Plain facts on the functions that the texts are written with. -/
namespace Gd
open Go
set_option linter.unusedVariables false
set_option linter.unusedSimpArgs false
end Gd

/- Types of data, abstract values, what they mean. -/
namespace Gx
open Go Go.RowKit Gd
set_option linter.unusedVariables false
set_option linter.unusedSimpArgs false
inductive Bd (α:Type) where
 | mk (x:α) (ks:List (Bd α))
def Bd.x {α:Type}:Bd α→α
 | .mk x _=>x
def Bd.ks {α:Type}:Bd α→List (Bd α)
 | .mk _ ks=>ks
inductive Ty where
 | int (k:IntKind) | bool | str
 | sl (e:Ty) | arr (n:Nat) (e:Ty)
 | unit | pr (f r:Ty) | st (fs:Ty) | ref | rose (fs:Ty)
@[reducible] def Ty.i:Ty:=.int .i64
@[reducible] def Ty.De:Ty→Type
 | .int _=>Int | .bool=>Bool | .str=>Str
 | .sl e=>List e.De | .arr _ e=>List e.De
 | .unit=>Unit | .pr f r=>f.De×r.De | .st fs=>fs.De | .ref=>Unit | .rose fs=>Bd fs.De
def Ty.beq:Ty→Ty→Bool
 | .int a,.int b=>Fn a b
 | .bool,.bool=>true
 | .str,.str=>true
 | .sl a,.sl b=>Ty.beq a b
 | .arr n a,.arr m b=>Nat.beq n m&&Ty.beq a b
 | .unit,.unit=>true
 | .pr a b,.pr c d=>Ty.beq a c&&Ty.beq b d
 | .st a,.st b=>Ty.beq a b
 | .ref,.ref=>true
 | .rose a,.rose b=>Ty.beq a b
 | _,_=>false
theorem Ty.beq_eq:∀{a b:Ty},Ty.beq a b=true→a=b
 | .int a,b,h=>by cases b<;>simp [Ty.beq] at h; rw [Gb h]
 | .bool,b,h=>by cases b<;>simp [Ty.beq] at h; rfl
 | .str,b,h=>by cases b<;>simp [Ty.beq] at h; rfl
 | .sl a,b,h=>by cases b<;>simp [Ty.beq] at h; rw [Ty.beq_eq h]
 | .arr n a,b,h=>by cases b<;>simp [Ty.beq] at h; rw [h.1,Ty.beq_eq h.2]
 | .unit,b,h=>by cases b<;>simp [Ty.beq] at h; rfl
 | .pr a c,b,h=>by cases b<;>simp [Ty.beq] at h; rw [Ty.beq_eq h.1,Ty.beq_eq h.2]
 | .st a,b,h=>by cases b<;>simp [Ty.beq] at h; rw [Ty.beq_eq h]
 | .ref,b,h=>by cases b<;>simp [Ty.beq] at h; rfl
 | .rose a,b,h=>by cases b<;>simp [Ty.beq] at h; rw [Ty.beq_eq h]
theorem Ty.beq_refl:∀a:Ty,Ty.beq a a=true
 | .int k=>by cases k<;>rfl
 | .bool=>rfl | .str=>rfl | .unit=>rfl
 | .sl a=>Ty.beq_refl a
 | .arr n a=>by simp [Ty.beq,Ty.beq_refl a,Nat.beq_refl]
 | .pr a b=>by simp [Ty.beq,Ty.beq_refl a,Ty.beq_refl b]
 | .st a=>Ty.beq_refl a
 | .ref=>rfl
 | .rose a=>Ty.beq_refl a
def Ty.cast (a b:Ty) (x:a.De):Option b.De:=if h:Ty.beq a b=true then some (Ty.beq_eq h▸x) else none
theorem Ty.cast_ok {a b:Ty} {x:a.De} {y:b.De} (h:Ty.cast a b x=some y):∃e:a=b,y=e▸x:=by
 unfold Ty.cast at h
 split at h
 ·rename_i hb; exact ⟨Ty.beq_eq hb,(Option.some.inj h).symm⟩
 ·cases h
def Q9b:RT Unit where
 size:=0
 agg:=true
 rep:=fun _ _ _ cs=>cs=[]
 len:=by rintro _ _ x cs rfl; rfl
 one:=fun h=>by cases h
 flat:=by rintro _ _ x cs rfl c hc; simp at hc
 evo:=fun h _=>h
 weak:=fun h _=>h
def Q36 {τ σ:Type} (r:RT τ) (s:RT σ):RT (τ×σ) where
 size:=r.size+s.size
 agg:=true
 rep:=fun ok w x cs=>∃c1 c2,cs=c1++c2∧r.rep ok w x.1 c1∧s.rep ok w x.2 c2
 len:=by rintro _ _ x cs ⟨c1,c2,rfl,h1,h2⟩; simp [r.len h1,s.len h2]
 one:=fun h=>by cases h
 flat:=by
  rintro _ _ x cs ⟨c1,c2,rfl,h1,h2⟩ c hc
  rcases List.mem_append.1 hc with hc | hc
  ·exact r.flat h1 c hc
  ·exact s.flat h2 c hc
 evo:=by rintro _ _ _ x cs ⟨c1,c2,rfl,h1,h2⟩ he; exact ⟨c1,c2,rfl,r.evo h1 he,s.evo h2 he⟩
 weak:=by rintro _ _ _ x cs ⟨c1,c2,rfl,h1,h2⟩ he; exact ⟨c1,c2,rfl,r.weak h1 he,s.weak h2 he⟩
def Q4s {τ:Type} (r:RT τ):RT τ where
 size:=r.size
 agg:=true
 rep:=r.rep
 len:=r.len
 one:=fun h=>by cases h
 flat:=r.flat
 evo:=r.evo
 weak:=r.weak
def Q9c:RT Unit where
 size:=1
 agg:=false
 rep:=fun _ _ _ _=>False
 len:=fun h=>h.elim
 one:=fun _=>rfl
 flat:=fun h=>h.elim
 evo:=fun h _=>h
 weak:=fun h _=>h
def Q4t {τ:Type} (r:RT τ):RT (Bd τ) where
 size:=r.size+1
 agg:=true
 rep:=fun _ _ _ _=>False
 len:=fun h=>h.elim
 one:=fun h=>by cases h
 flat:=fun h=>h.elim
 evo:=fun h _=>h
 weak:=fun h _=>h
def Q4u {τ:Type} (r:RT τ) (k:RT (Bd τ)):RT (Bd τ) where
 size:=r.size+1
 agg:=true
 rep:=fun ok w x cs=>∃c1 c2,cs=c1++c2∧r.rep ok w x.x c1∧(rSl k).rep ok w x.ks c2
 len:=by rintro _ _ x cs ⟨c1,c2,rfl,h1,h2⟩; simp [r.len h1,(rSl k).len h2,rSl]
 one:=fun h=>by cases h
 flat:=by
  rintro _ _ x cs ⟨c1,c2,rfl,h1,h2⟩ c hc
  rcases List.mem_append.1 hc with hc | hc
  ·exact r.flat h1 c hc
  ·exact (rSl k).flat h2 c hc
 evo:=by rintro _ _ _ x cs ⟨c1,c2,rfl,h1,h2⟩ he; exact ⟨c1,c2,rfl,r.evo h1 he,(rSl k).evo h2 he⟩
 weak:=by rintro _ _ _ x cs ⟨c1,c2,rfl,h1,h2⟩ he; exact ⟨c1,c2,rfl,r.weak h1 he,(rSl k).weak h2 he⟩
def Gq {τ:Type} (r:RT τ):Nat→RT (Bd τ)
 | 0=>Q4t r
 | n+1=>Q4u r (Gq r n)
theorem Gc {τ:Type} (r:RT τ):∀n,(Gq r n).size=r.size+1
 | 0=>rfl
 | _+1=>rfl
theorem Of {τ:Type} {r s:RT τ} {ok:Ok} {w:World} (hs:r.size=s.size) (h:∀{x cs},r.rep ok w x cs→s.rep ok w x cs) {xs:List τ} {cs:List Value}:(rSl r).rep ok w xs cs→(rSl s).rep ok w xs cs:=by
 rintro ⟨v,rfl,A,n,c,rfl,hl,hc,hn⟩
 refine ⟨_,rfl,A,n,c,rfl,hl,hc,fun h0=>?_⟩
 obtain ⟨b,o,hA,hx⟩:=hn h0
 refine ⟨b,o,hA,fun i x hi=>?_⟩
 obtain ⟨cs,hr,ha⟩:=hx i x hi
 exact ⟨cs,h hr,by rw [←hs]; exact ha⟩
theorem Md {τ:Type} (r:RT τ) {ok:Ok} {w:World}:∀(n:Nat) {x:Bd τ} {cs:List Value},(Gq r n).rep ok w x cs→(Gq r (n+1)).rep ok w x cs
 | 0,_,_,h=>h.elim
 | n+1,x,cs,⟨c1,c2,e,h1,h2⟩=>⟨c1,c2,e,h1,Of (by rw [Gc,Gc]) (Md r n) h2⟩
theorem So {τ:Type} (r:RT τ) {ok:Ok} {w:World} {n m:Nat} (h:n≤m) {x:Bd τ} {cs:List Value} (hx:(Gq r n).rep ok w x cs):(Gq r m).rep ok w x cs:=by
 induction h with
 | refl=>exact hx
 | step _ ih=>exact Md r _ ih
def Me {τ:Type} (r:RT τ):RT (Bd τ) where
 size:=r.size+1
 agg:=true
 rep:=fun ok w x cs=>∃n,(Gq r n).rep ok w x cs
 len:=by rintro _ _ x cs ⟨n,h⟩; rw [(Gq r n).len h,Gc]
 one:=fun h=>by cases h
 flat:=by rintro _ _ x cs ⟨n,h⟩; exact (Gq r n).flat h
 evo:=by rintro _ _ _ x cs ⟨n,h⟩ he; exact ⟨n,(Gq r n).evo h he⟩
 weak:=by rintro _ _ _ x cs ⟨n,h⟩ he; exact ⟨n,(Gq r n).weak h he⟩
theorem Qkl {τ:Type} {r:RT τ} {ok:Ok} {w:World} {x:Bd τ} {cs:List Value} (h:(Me r).rep ok w x cs):∃c1 c2,cs=c1++c2∧r.rep ok w x.x c1∧(rSl (Me r)).rep ok w x.ks c2:=by
 obtain ⟨n,h⟩:=h
 cases n with
 | zero=>exact h.elim
 | succ n =>
  obtain ⟨c1,c2,e,h1,h2⟩:=h
  exact ⟨c1,c2,e,h1,Of (s:=Me r) (Gc r n) (fun h=>⟨n,h⟩) h2⟩
theorem Qol {τ:Type} {r:RT τ} {ok:Ok} {w:World} {x:τ} {ks:List (Bd τ)} {c1 c2:List Value} (h1:r.rep ok w x c1) (h2:(rSl (Me r)).rep ok w ks c2):(Me r).rep ok w (.mk x ks) (c1++c2):=by
 obtain ⟨v,rfl,A,n,c,rfl,hl,hc,hn⟩:=h2
 rcases Nat.eq_zero_or_pos n with h0 | h0
 ·subst h0
  refine ⟨1,c1,_,rfl,h1,_,rfl,A,0,c,rfl,hl,hc,fun h=>absurd h (by omega)⟩
 ·obtain ⟨b,o,hA,hx⟩:=hn h0
  have key2:∀(k:Nat),∃m,∀(i:Nat) (y:Bd τ),i<k→ks[i]?=some y→∃cs,(Gq r m).rep ok w y cs∧W0 ok w b (o+i*(Me r).size) cs:=by
   intro k
   induction k with
   | zero=>exact ⟨0,fun i y hi=>absurd hi (by omega)⟩
   | succ k ih =>
    obtain ⟨m,hm⟩:=ih
    cases hk:ks[k]? with
    | none =>
     refine ⟨m,fun i y hi hy=>?_⟩
     rcases Nat.lt_or_ge i k with hlt | hge
     ·exact hm i y hlt hy
     ·have:i=k:=by omega
      subst this; rw [hk] at hy; cases hy
    | some z =>
     obtain ⟨cs,⟨m2,h3⟩,h4⟩:=hx k z hk
     refine ⟨max m m2,fun i y hi hy=>?_⟩
     rcases Nat.lt_or_ge i k with hlt | hge
     ·obtain ⟨cs',h5,h6⟩:=hm i y hlt hy
      exact ⟨cs',So r (Nat.le_max_left _ _) h5,h6⟩
     ·have:i=k:=by omega
      subst this; rw [hk] at hy; injection hy with hy; subst hy
      exact ⟨cs,So r (Nat.le_max_right _ _) h3,h4⟩
  obtain ⟨m,hm⟩:=key2 ks.length
  refine ⟨m+1,c1,_,rfl,h1,_,rfl,A,n,c,rfl,hl,hc,fun _=>⟨b,o,hA,fun i y hy=>?_⟩⟩
  obtain ⟨cs,h5,h6⟩:=hm i y (List.getElem?_eq_some_iff.1 hy).1 hy
  exact ⟨cs,h5,by rw [Gc]; exact h6⟩
def rt:(t:Ty)→RT t.De
 | .int k=>E2 k
 | .bool=>Qbt
 | .str=>Q4p
 | .sl e=>rSl (rt e)
 | .arr n e=>Qn7 n (rt e)
 | .unit=>Q9b
 | .pr f r=>Q36 (rt f) (rt r)
 | .st fs=>Q4s (rt fs)
 | .ref=>Q9c
 | .rose fs=>Me (rt fs)
def Ty.size:Ty→Nat
 | .int _=>1 | .bool=>1 | .str=>1 | .sl _=>1
 | .arr n e=>n*e.size
 | .unit=>0 | .pr f r=>f.size+r.size | .st fs=>fs.size | .ref=>1 | .rose fs=>fs.size+1
def Ty.agg:Ty→Bool
 | .int _=>false | .bool=>false | .str=>false | .sl _=>false
 | .arr _ _=>true
 | .unit=>true | .pr _ _=>true | .st _=>true | .ref=>false | .rose _=>true
theorem Jh:∀t:Ty,(rt t).size=t.size
 | .int _=>rfl | .bool=>rfl | .str=>rfl | .sl _=>rfl
 | .arr n e=>by simp [rt,Qn7,Ty.size,Jh e]
 | .unit=>rfl
 | .pr f r=>by simp [rt,Q36,Ty.size,Jh f,Jh r]
 | .st fs=>by simp [rt,Q4s,Ty.size,Jh fs]
 | .ref=>rfl
 | .rose fs=>by simp [rt,Me,Ty.size,Jh fs]
theorem Xn:∀t:Ty,(rt t).agg=t.agg
 | .int _=>rfl | .bool=>rfl | .str=>rfl | .sl _=>rfl | .arr _ _=>rfl | .unit=>rfl | .pr _ _=>rfl | .st _=>rfl | .ref=>rfl | .rose _=>rfl
inductive PS where
 | f (k off:Nat) | i (j:Int) (size:Nat)
def PS.off:PS→Nat
 | .f _ o=>o | .i j s=>j.toNat*s
def Jp:List PS→Nat
 | []=>0
 | p::l=>p.off+Jp l
inductive AV where
 | d (t:Ty) (x:t.De)
 | p (id:Nat) (path:List PS)
 | e (id:Nat) (path:List PS)
 | s (id:Nat)
 | m (id:Nat)
 | b (id:Nat)
 | w (id:Nat) (j n:Int)
 | a (t:Ty) (x:t.De)
 | z | ns | np | nm | nf
 | f (fn:FuncId) (caps:AV)
 | ag (l:AV)
 | tp (l:AV)
 | nil
 | cons (x r:AV)
def AV.isAgg:AV→Bool
 | .d t _=>t.agg
 | .ag _=>true
 | _=>false
def AV.val (x:AV) (cs:List Value):Value:=bif x.isAgg then .agg cs.toArray else cs.headD undef
def AV.size:AV→Nat
 | .d t _=>t.size
 | .ag l=>l.size
 | .nil=>0
 | .cons x r=>x.size+r.size
 | _=>1
def AV.inMem:AV→Bool
 | .tp _=>false
 | .f _ _=>true
 | .ag l=>l.inMem
 | .cons x r=>x.inMem&&r.inMem
 | _=>true
def zal (v u:Value):Prop:=v=u∨(u=.slice none 0 0∧∃A,v=.slice A 0 0)
theorem zal.form {v u:Value} (h:zal v u) (hu:∃A n c,u=.slice A n c):∃A n c,v=.slice A n c:=by
 rcases h with rfl | ⟨_,A,rfl⟩
 ·exact hu
 ·exact ⟨_,_,_,rfl⟩
section
variable (β:Nat→Nat) (ρ:Nat→Value) (ok:Ok) (w:World)
def cr:Bool→AV→List Value→Prop
 | _,.d t x,cs=>(rt t).rep ok w x cs
 | _,.p id path,cs=>cs=[.pointer (some ⟨β id,Jp path,none⟩)]
 | _,.e id path,cs=>∃g,(ρ id).ownBlock=some g∧cs=[.pointer (some ⟨g,Jp path,none⟩)]
 | _,.s id,cs=>(∃v,cs=[v]∧zal v (ρ id))∧∃A n c,ρ id=.slice A n c
 | _,.m id,cs=>cs=[.map (some (β id))]
 | _,.b id,cs=>cs=[.int .i64 (β id)]
 | _,.w id j n,cs=>∃A c,cs=[.slice (some A) n.toNat c]∧(0<n.toNat→A=⟨β id,j.toNat,none⟩)
 | _,.a t x,cs=>∃v,cs=[v]∧I8 (rt t) ok w x v
 | _,.z,cs=>∃A,cs=[.slice A 0 0]
 | _,.ns,cs=>cs=[.slice none 0 0]
 | _,.np,cs=>cs=[.pointer none]
 | _,.nm,cs=>cs=[.map none]
 | _,.nf,cs=>cs=[.nilFunc]
 | _,.f fn caps,cs=>∃vs,cs=[.func (.func fn) #[] vs.toArray]∧cr true caps vs
 | _,.ag l,cs=>cr false l cs
 | _,.tp l,cs=>∃vs,cs=[.tuple vs.toArray]∧cr true l vs
 | _,.nil,cs=>cs=[]
 | true,.cons x r,cs=>∃c1 vs,cs=x.val c1::vs∧cr false x c1∧cr true r vs
 | false,.cons x r,cs=>∃c1 c2,cs=c1++c2∧cr false x c1∧cr false r c2
end
section
variable {β:Nat→Nat} {ρ:Nat→Value} {ok ok':Ok} {w w':World}
theorem X8:∀{m:Bool} {x:AV} {cs:List Value},cr β ρ ok w m x cs→Evo ok w w'→cr β ρ ok w' m x cs
 | m,.d t x,cs,h,he=>by cases m<;>exact (rt t).evo h he
 | m,.p ..,cs,h,he=>by cases m<;>exact h
 | m,.e ..,cs,h,he=>by cases m<;>exact h
 | m,.s _,cs,h,he=>by cases m<;>exact h
 | m,.m _,cs,h,he=>by cases m<;>exact h
 | m,.b _,cs,h,he=>by cases m<;>exact h
 | m,.w ..,cs,h,he=>by cases m<;>exact h
 | m,.a t x,cs,h,he=>by cases m<;>exact let ⟨v,h1,h2⟩:=h; ⟨v,h1,h2.evo he⟩
 | m,.z,cs,h,he=>by cases m<;>exact h
 | m,.ns,cs,h,he=>by cases m<;>exact h
 | m,.np,cs,h,he=>by cases m<;>exact h
 | m,.nm,cs,h,he=>by cases m<;>exact h
 | m,.nf,cs,h,he=>by cases m<;>exact h
 | m,.f fn caps,cs,h,he=>by cases m<;>exact let ⟨vs,h1,h2⟩:=h; ⟨vs,h1,X8 h2 he⟩
 | m,.ag l,cs,h,he=>by cases m<;>exact X8 (m:=false) (x:=l) h he
 | m,.tp l,cs,h,he=>by cases m<;>exact let ⟨vs,h1,h2⟩:=h; ⟨vs,h1,X8 h2 he⟩
 | m,.nil,cs,h,he=>by cases m<;>exact h
 | true,.cons x r,cs,h,he=>let ⟨c1,vs,h1,h2,h3⟩:=h; ⟨c1,vs,h1,X8 h2 he,X8 h3 he⟩
 | false,.cons x r,cs,h,he=>let ⟨c1,vs,h1,h2,h3⟩:=h; ⟨c1,vs,h1,X8 h2 he,X8 h3 he⟩
theorem Vt:∀{m:Bool} {x:AV} {cs:List Value},cr β ρ ok w m x cs→(∀b o,ok b o→ok' b o)→cr β ρ ok' w m x cs
 | m,.d t x,cs,h,he=>by cases m<;>exact (rt t).weak h he
 | m,.p ..,cs,h,he=>by cases m<;>exact h
 | m,.e ..,cs,h,he=>by cases m<;>exact h
 | m,.s _,cs,h,he=>by cases m<;>exact h
 | m,.m _,cs,h,he=>by cases m<;>exact h
 | m,.b _,cs,h,he=>by cases m<;>exact h
 | m,.w ..,cs,h,he=>by cases m<;>exact h
 | m,.a t x,cs,h,he=>by cases m<;>exact let ⟨v,h1,h2⟩:=h; ⟨v,h1,h2.weak he⟩
 | m,.z,cs,h,he=>by cases m<;>exact h
 | m,.ns,cs,h,he=>by cases m<;>exact h
 | m,.np,cs,h,he=>by cases m<;>exact h
 | m,.nm,cs,h,he=>by cases m<;>exact h
 | m,.nf,cs,h,he=>by cases m<;>exact h
 | m,.f fn caps,cs,h,he=>by cases m<;>exact let ⟨vs,h1,h2⟩:=h; ⟨vs,h1,Vt h2 he⟩
 | m,.ag l,cs,h,he=>by cases m<;>exact Vt (m:=false) (x:=l) h he
 | m,.tp l,cs,h,he=>by cases m<;>exact let ⟨vs,h1,h2⟩:=h; ⟨vs,h1,Vt h2 he⟩
 | m,.nil,cs,h,he=>by cases m<;>exact h
 | true,.cons x r,cs,h,he=>let ⟨c1,vs,h1,h2,h3⟩:=h; ⟨c1,vs,h1,Vt h2 he,Vt h3 he⟩
 | false,.cons x r,cs,h,he=>let ⟨c1,vs,h1,h2,h3⟩:=h; ⟨c1,vs,h1,Vt h2 he,Vt h3 he⟩
theorem Ur:∀{x:AV} {cs:List Value},cr β ρ ok w false x cs→cs.length=x.size
 | .d t x,cs,h=>by rw [AV.size,←Jh]; exact (rt t).len h
 | .p ..,cs,h=>by subst h; rfl
 | .e ..,cs,⟨_,_,h⟩=>by subst h; rfl
 | .s _,cs,⟨⟨_,h,_⟩,_⟩=>by subst h; rfl
 | .m _,cs,h=>by subst h; rfl
 | .b _,cs,h=>by subst h; rfl
 | .w ..,cs,⟨_,_,h,_⟩=>by subst h; rfl
 | .a t x,cs,⟨_,h,_⟩=>by subst h; rfl
 | .z,cs,⟨_,h⟩=>by subst h; rfl
 | .ns,cs,h=>by subst h; rfl
 | .np,cs,h=>by subst h; rfl
 | .nm,cs,h=>by subst h; rfl
 | .nf,cs,h=>by subst h; rfl
 | .f ..,cs,⟨_,h,_⟩=>by subst h; rfl
 | .ag l,cs,h=>by rw [AV.size]; exact Ur (x:=l) h
 | .tp l,cs,⟨_,h,_⟩=>by subst h; rfl
 | .nil,cs,h=>by subst h; rfl
 | .cons x r,cs,⟨c1,c2,h,h1,h2⟩=>by subst h; rw [List.length_append,Ur h1,Ur h2]; rfl
theorem W5:∀{x:AV} {cs:List Value},cr β ρ ok w false x cs→x.inMem=true→∀c∈cs,c.oneCell'=true
 | .d t x,cs,h,_=>(rt t).flat h
 | .p ..,cs,h,_=>by subst h; simp; rfl
 | .e ..,cs,⟨_,_,h⟩,_=>by subst h; simp; rfl
 | .s id,cs,⟨⟨v,h,hz⟩,hs⟩,_=>by
  subst h; obtain ⟨A,n,c,rfl⟩:=hz.form hs
  intro c hc; simp at hc; subst hc; rfl
 | .m _,cs,h,_=>by subst h; simp; rfl
 | .b _,cs,h,_=>by subst h; simp; rfl
 | .w ..,cs,⟨_,_,h,_⟩,_=>by subst h; simp; rfl
 | .a t x,cs,⟨v,h,hv⟩,_=>by obtain ⟨b,o,c,rfl,_⟩:=hv; subst h; simp; rfl
 | .z,cs,⟨_,h⟩,_=>by subst h; simp; rfl
 | .ns,cs,h,_=>by subst h; simp; rfl
 | .np,cs,h,_=>by subst h; simp; rfl
 | .nm,cs,h,_=>by subst h; simp; rfl
 | .nf,cs,h,_=>by subst h; simp; rfl
 | .f ..,cs,⟨_,h,_⟩,_=>by subst h; simp; rfl
 | .ag l,cs,h,hm=>W5 (x:=l) h hm
 | .tp l,cs,_,hm=>by cases hm
 | .nil,cs,h,_=>by subst h; simp
 | .cons x r,cs,⟨c1,c2,h,h1,h2⟩,hm=>by
  simp only [AV.inMem,Bool.and_eq_true] at hm
  subst h
  intro c hc
  rcases List.mem_append.1 hc with hc | hc
  ·exact W5 h1 hm.1 c hc
  ·exact W5 h2 hm.2 c hc
theorem Q4v {x:AV} {cs:List Value} (h:cr β ρ ok w false x cs) (ha:x.isAgg=false) (hn:x.size=1):∃c,cs=[c]:=by
 have:=Ur h
 rw [hn] at this
 match cs,this with
 | [c],_=>exact ⟨c,rfl⟩
theorem Qom:∀{t:Ty},t.agg=false→t.size=1
 | .int _,_=>rfl | .bool,_=>rfl | .str,_=>rfl | .sl _,_=>rfl | .ref,_=>rfl
def AV.isVal:AV→Bool
 | .nil=>false
 | .cons _ _=>false
 | .d t _=>true
 | _=>true
theorem Z3 {x:AV} {cs:List Value} (h:cr β ρ ok w false x cs) (hv:x.isVal=true) (hm:x.inMem=true):Qh (x.val cs)=cs:=by
 unfold AV.val
 cases ha:x.isAgg with
 | true=>simp [Qh]
 | false =>
  have hsz:x.size=1:=by
   cases x<;>first | rfl | (simp [AV.isAgg] at ha; done) | (simp [AV.isVal] at hv; done) | skip
   ·exact Qom ha
  obtain ⟨c,rfl⟩:=Q4v h ha hsz
  have:=W5 h hm c (.head _)
  simp only [cond_false,List.headD_cons]
  cases c<;>first | rfl | (simp [Value.oneCell'] at this)
theorem Qb6 {t:Ty} {x:t.De} {cs:List Value}:(AV.d t x).val cs=(rt t).val cs:=by
 simp only [AV.val,AV.isAgg,RT.val,Xn]
 cases t.agg<;>simp
theorem Qkm {t:Ty} {x:t.De} {cs:List Value} (h:cr β ρ ok w false (.d t x) cs):isV (rt t) ok w x ((AV.d t x).val cs):=⟨cs,h,Qb6⟩
theorem He {t:Ty} {x:t.De} {v:Value} (h:isV (rt t) ok w x v):∃cs,cr β ρ ok w false (.d t x) cs∧v=(AV.d t x).val cs:=by
 obtain ⟨cs,hr,rfl⟩:=h
 exact ⟨cs,hr,Qb6.symm⟩
end
end Gx
