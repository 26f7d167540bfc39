/- A range over a function. -/
import Derived.Test.YtpdhjildhjpjdaaGreatXMp
import Derived.RangeFuncIn
import Derived.RangeFuncLeaves
import Derived.Test.YtpdhjildhjpjdaaGreatGRows
import Derived.Lib.ItoaNum
import Derived.Lib.LaidTab
import Derived.Lib.AppendIntMem
import Derived.Lib.Bytealg
import Derived.Lib.SlTrimSet
import Derived.Lib.Walk
import Derived.Lib.SlKeysI
import Derived.Maps.Views
namespace Gx
open Go Go.RowKit Gd
set_option linter.unusedVariables false
set_option linter.unusedSimpArgs false
structure It where
 f:FuncId
 cs:List Ty
 u:Ty
 fn:Tup cs→Option (List u.De)
def Jfl(ok:Ok)(w:World):List DV→List Nat→Prop
 | [],[]=>True
 | v::l,b::bs=>(∃tid cs,w.heap[b]?=some (.cells cs.toArray tid (0,0))∧(rt v.1).rep ok w v.2 cs)∧Jfl ok w l bs
 | _,_=>False
def Q4l(b:Nat):Value:=.pointer (some ⟨b,0,none⟩)
def okC(ok:Ok)(w A:World)(O:Nat→Prop)(bs:List Nat):Ok:=fun b o=>(ok b o∨w.heap.size≤b∨b∈bs)∧b<A.heap.size∧¬ O b
def Jfm(P:Program)(gl:List (Nat×Σ t:Ty,t.De))(it:It):Prop :=
 ∀(ok:Ok) (w:World) (bs:List Nat) (x:Tup it.cs) (es:List it.u.De),(∀b o,ok b o→b<w.heap.size)→Ud gl ok w→it.fn x=some es→Jfl ok w (toL it.cs x) bs→bs.Nodup→(∀b∈bs,∀o,¬ ok b o) →
   ∀(l:Nat) (J:Nat→(Nat→Prop)→World→Prop) (W:World) (O0:Nat→Prop),Below w.heap.size w W→(∀k O A B,J k O A→Below A.heap.size A B→J k O B)→(∀k O A,J k O A→∀b,O b→b<A.heap.size∧(∀o,¬ ok b o)∧b∉bs) →
    (∀k O A e v,J k O A→es[k]?=some e→isV (rt it.u) (okC ok w A O bs) A e v→∀m,YieldAt Fence.wide m P l #[v] A fun r B=>r=.returned (.bool true) ∧
     ∃O',J (k+1) O' B∧(∀b,O' b→O b∨A.heap.size≤b)∧A.heap.size≤B.heap.size∧∀b,b<A.heap.size→¬ O b→B.heap[b]?=A.heap[b]?)→J 0 O0 W →
    ∀m,CallsIn Fence.wide m P it.f (#[.func (.yield l) #[] #[]]++(bs.map Q4l).toArray) W fun e B=>(∃v,e=.returned v)∧∃O,J es.length O B
def Qz6(M:List (Nat×Ob)):AV→Option (List (Nat×DV))
 | .nil=>some []
 | .cons (.p id []) r=>match Qh M id,Qz6 M r with
  | some (.var _ (.d t x)),some l=>some ((id,⟨t,x⟩)::l)
  | _,_=>none
 | _=>none
def Qpa{σ α:Type}(f:σ→α→Option σ):List α→σ→Option σ
 | [],s=>some s
 | x::l,s=>(f s x).bind fun s'=>Qpa f l s'
inductive AnR where
 | pre (a:An) (r:AnR)
 | inn (r:AnR) (b:An)
 | un (r:AnR)
 | rf (it:Nat) (ks ms:List Nat) (Γ:Shp) (a b:An)
def Qpb(ids:List Nat)(M:List (Nat×Ob)):List (Nat×Ob):=M.filter fun q=>!Yj ids q.1
section
variable (Y:TX) (K:List Con) (n N:Nat)
noncomputable def rdR(Γ:Shp){u:Ty}(S1:XS)(p:Nat)(aA aB:An)(A B:Code)(s:Γ.De)(e:u.De):Option Γ.De :=
 bif V2 (S1.re (enc Γ s)).flat.mem then
  Up Y K n N aA A ((S1.re (enc Γ s)).put p [] (.d u e)) fun ex S2=>match ex with
   | .n=>bif V2 S2.flat.mem then(Up Y K n N aB B S2 fun ex2 S3=>match ex2 with
    | .n=>S3.dec Γ
    | _=>none)else none
   | _=>none
 else none
def rfS(S:XS)(ids ks ms:List Nat):XS:=XS.ent { S with mem:=Qpb ids S.mem } ks ms
noncomputable def Qj1{R:Type}(its:List It):AnR→Code→XS→(Ex→XS→Option R)→Option R
 | .pre a r,.seq x y,S,k=>Up Y K n N a x S fun e S'=>match e with
  | .n=>Qj1 its r y S' k
  | _=>none
 | .inn r b,.seq x y,S,k=>Qj1 its r x S fun e S'=>match e with
  | .n=>bif V2 S'.flat.mem then Up Y K n N b y S' k else none
  | _=>none
 | .un r,.block _ c,S,k=>Qj1 its r c S fun e S'=>match e with
  | .n=>k .n S'
  | _=>none
 | .rf i ks ms Γ aA aB,.rangeFunc (.tmp g) ⟨[p]⟩ A B,S,k=>match its[i]?,S.ev [] (.tmp g)with
  | some it,some (.f gf caps)=>match Qz6 S.mem caps with
   | some bl=>match ofL it.cs (bl.map Prod.snd)with
    | some x=>bif Nat.beq it.f gf&&(rb aA A&&rb aB B)&&((p::(Kl A++Kl B)).all fun d=>Rr d (rfS S (bl.map Prod.fst) ks ms).fix)&&Jip Γ.env&&okW n (rfS S (bl.map Prod.fst) ks ms) p&&Ow (bl.map Prod.fst) &&
       V2 (rfS S (bl.map Prod.fst) ks ms).flat.mem then
      (it.fn x).bind fun es=>match (rfS S (bl.map Prod.fst) ks ms).dec Γ with
       | some s0=>(Qpa (rdR Y K n N Γ (u:=it.u) (rfS S (bl.map Prod.fst) ks ms) p aA aB A B) es s0).bind fun s=>k .n (XS.out { S with mem:=Qpb (bl.map Prod.fst) S.mem } ks ms (enc Γ s))
       | none=>none else none
    | none=>none
   | none=>none
  | _,_=>none
 | _,_,_,_=>none
end
theorem Q89{α:Type}{R:α→α→Prop}(hs:∀a b,R a b→R b a):∀{l:List α},l.Pairwise R→∀x∈l,∀y∈l,x=y∨R x y
 | [],_,x,hx,_,_=>by cases hx
 | z::l,h,x,hx,y,hy=>by
  have h':=List.pairwise_cons.1 h
  rcases QJ.1 hx with h1 | h1
  ·grind
  ·rcases QJ.1 hy with h2 | h2
   ·grind
   ·exact Q89 hs h'.2 x h1 y h2
theorem Qbh:∀{l:List (Nat×Ob)} {t:Nat} {o:Ob},Qh l t=some o→(t,o)∈l
 | q::l,t,o,h=>by
  simp only[Qh]at h
  cases hb:Nat.beq q.1 t with
  | true =>
   rw[hb]at h
   grind [Nat.eq_of_beq_eq_true]
  | false =>
   rw[hb]at h
   exact .tail _ (Qbh h)
section
variable {P:Program} {Y:TX} {X:Cx} {n N:Nat} {K:List Con} {β β':Nat→Nat} {ρ ρ':Nat→Value} {a a':Act} {w w':World} {S:XS}
theorem Rel.filterM{env:List En}{M F:List (Nat×Ob)}{ids:List Nat}(h:Rel X β ρ ⟨env,M++F⟩ a w):Rel X β ρ ⟨env,Qpb ids M++F⟩ a w:=by
 have hsub:(Qj β ρ (Qpb ids M++F)).Sublist (Qj β ρ (M++F)):=List.Sublist.map _ (List.Sublist.append_right List.filter_sublist _)
 exact Sb.remake h (fun t' ht'=>.inl ⟨t',hsub.subset ht',fun _ hg=>hg,fun _ _ hc=>hc,(h.own t' (hsub.subset ht')).1⟩) (h.dOO.sublist hsub)
theorem Qxc{ok:Ok}{M:List (Nat×Ob)}:∀{caps:AV} {vs:List Value} {bl:List (Nat×DV)},cr β ρ ok w true caps vs→Qz6 M caps=some bl→vs=(bl.map fun q=>β q.1).map Q4l
 | .nil,vs,bl,h,hb=>by
  simp only[Qz6,Option.some.injEq]at hb
  subst hb
  exact h
 | .cons x r,vs,bl,h,hb=>by
  obtain⟨c1,us,rfl,h1,h2⟩:=h
  unfold Qz6 at hb
  split at hb
  ·grind
  ·rename_i id r' e
   injection e with e1 e2
   subst e1; subst e2
   split at hb
   ·rename_i tid t x l q1 q2
    simp only[Option.some.injEq]at hb
    subst hb
    have h1':c1=_:=h1
    subst h1'
    rw[Qxc h2 q2]
    rfl
   ·cases hb
  ·cases hb
 | .d _ _,_,_,_,hb=>by cases hb
 | .p _ _,_,_,_,hb=>by cases hb
 | .e _ _,_,_,_,hb=>by cases hb
 | .s _,_,_,_,hb=>by cases hb
 | .m _,_,_,_,hb=>by cases hb
 | .b _,_,_,_,hb=>by cases hb
 | .w _ _ _,_,_,_,hb=>by cases hb
 | .a _ _,_,_,_,hb=>by cases hb
 | .z,_,_,_,hb=>by cases hb
 | .ns,_,_,_,hb=>by cases hb
 | .np,_,_,_,hb=>by cases hb
 | .nm,_,_,_,hb=>by cases hb
 | .nf,_,_,_,hb=>by cases hb
 | .f _ _,_,_,_,hb=>by cases hb
 | .ag _,_,_,_,hb=>by cases hb
 | .tp _,_,_,_,hb=>by cases hb
theorem Qxd{M:List (Nat×Ob)}:∀{caps:AV} {bl:List (Nat×DV)},Qz6 M caps=some bl→∀q∈bl,∃tid,Qh M q.1=some (.var tid (.d q.2.1 q.2.2))
 | .nil,bl,hb=>by
  grind [Qz6,Option.some.injEq]
 | .cons x r,bl,hb=>by
  unfold Qz6 at hb
  split at hb
  ·grind
  ·rename_i id r' e
   injection e with e1 e2
   subst e1; subst e2
   split at hb
   ·rename_i tid t x l q1 q2
    simp only[Option.some.injEq]at hb
    subst hb
    intro q hq
    rcases QJ.1 hq with rfl | hq
    ·exact⟨tid,q1⟩
    ·exact Qxd q2 q hq
   ·cases hb
  ·cases hb
 | .d _ _,_,hb=>by cases hb
 | .p _ _,_,hb=>by cases hb
 | .e _ _,_,hb=>by cases hb
 | .s _,_,hb=>by cases hb
 | .m _,_,hb=>by cases hb
 | .b _,_,hb=>by cases hb
 | .w _ _ _,_,hb=>by cases hb
 | .a _ _,_,hb=>by cases hb
 | .z,_,hb=>by cases hb
 | .ns,_,hb=>by cases hb
 | .np,_,hb=>by cases hb
 | .nm,_,hb=>by cases hb
 | .nf,_,hb=>by cases hb
 | .f _ _,_,hb=>by cases hb
 | .ag _,_,hb=>by cases hb
 | .tp _,_,hb=>by cases hb
theorem Jb1{ok:Ok}:∀{bl:List (Nat×DV)},(∀q∈bl,∃tid cs,w.heap[β q.1]?=some (.cells cs.toArray tid (0,0))∧(rt q.2.1).rep ok w q.2.2 cs)→Jfl ok w (bl.map Prod.snd) (bl.map fun q=>β q.1)
 | [],_=>trivial
 | q::bl,h=>⟨h q (.head _),Jb1 fun x hx=>h x (.tail _ hx)⟩
theorem Jvc(hT:Q0 P Y.T)(hmix:P.follows .mixedOrders=true)(hK:KsX P Y X K)(hX:X.n=n)(hr:X.res=[])(hpin:X.pin=none)(hdf:X.dfs=[]){it:It}(hit:Jfm P Y.gl it)(hrun:Runs P it.f)
  {g p m:Nat} {A B:Code} {ks ms:List Nat} {Γ:Shp} {aA aB:An} {caps:AV} {bl:List (Nat×DV)} {x:Tup it.cs} {es:List it.u.De} {s0 sE:Γ.De} {Q:Exit→Act→World→Prop}
  (h:Rel X β ρ S.flat a w) (hg:S.ev [] (.tmp g)=some (.f it.f caps)) (hbl:Qz6 S.mem caps=some bl) (hx:ofL it.cs (bl.map Prod.snd)=some x) (hbA:rb aA A=true) (hbB:rb aB B=true)
  (hoff:∀d∈p::(Kl A++Kl B),Rr d (rfS S (bl.map Prod.fst) ks ms).fix=true) (hΓ:Γ.env=[]) (hp:okW n (rfS S (bl.map Prod.fst) ks ms) p=true) (hV:V2 (rfS S (bl.map Prod.fst) ks ms).flat.mem=true) (hndB:Ow (bl.map Prod.fst)=true)
  (hes:it.fn x=some es) (hs0:(rfS S (bl.map Prod.fst) ks ms).dec Γ=some s0) (hfold:Qpa (rdR Y K n N Γ (u:=it.u) (rfS S (bl.map Prod.fst) ks ms) p aA aB A B) es s0=some sE)
  (H:∀(β':Nat→Nat) (ρ':Nat→Value) (w':World) (D:Nat),agP S.prot β β' ρ ρ'→Rel { X with dfs:=[⟨.collected D,#[]⟩] } β' ρ' (XS.out { S with mem:=Qpb (bl.map Prod.fst) S.mem } ks ms (enc Γ sE)).flat { a with defers:=[⟨.collected D,#[]⟩] } w' →
   w'.heap[D]?=some (.deferred (some []))→X.w.heap.size≤D→Q .normal { a with defers:=[⟨.collected D,#[]⟩] } w') :
  (Code.rangeFunc (.tmp g) ⟨[p]⟩ A B).wpIn Fence.wide m P Q a w:=by
 obtain⟨S1,hS1⟩:∃S1,S1=rfS S (bl.map Prod.fst) ks ms:=⟨_,rfl⟩
 rw[←hS1]at hoff hp hV hs0 hfold
 have hflat0:Rel X β ρ (XS.flat { S with mem:=Qpb (bl.map Prod.fst) S.mem }) a w:=Rel.filterM (M:=S.mem) (F:=S.fixM) h
 have h1:Rel X β ρ S1.flat a w:=by rw[hS1]; exact hflat0.ent ks ms
 have hpm:S1.flat.mem.Perm (Qpb (bl.map Prod.fst) S.mem++S.fixM):=by
  rw[hS1]
  simp only[XS.flat,rfS,XS.ent]
  rw[←List.append_assoc]
  exact(JJ.trans (Kz ms _)).append_right _
 have hprot:S1.prot=S.prot:=by rw[hS1]; rfl
 have hsubM:∀q∈S1.flat.mem,q∈S.flat.mem∧(q∈Qpb (bl.map Prod.fst) S.mem∨q∈S.fixM):=fun q hq=>by
  rcases QX.1 (hpm.subset hq)with hq | hq
  ·exact⟨List.mem_append_left _ (QD.1 hq).1,.inl hq⟩
  ·exact⟨List.mem_append_right _ hq,.inr hq⟩
 obtain⟨cs,hev,us,hus,hcaps⟩:=h.ev (Qf a) hg
 have hev':a.eval (.tmp g)=.func (.func it.f) #[] us.toArray:=by rw[hev,hus]; rfl
 have husv:=Qxc hcaps hbl
 have hlook:=Qxd hbl
 have hokW:∀b o,okR X β ρ S.flat.mem w b o→okR X β ρ S1.flat.mem w b o:=fun b o ⟨q1,q2,q3,q4⟩=>⟨q1,q2,q3,fun t ht=>by
  grind⟩
 have hbox:Jfl (okR X β ρ S.flat.mem w) w (bl.map Prod.snd) (bl.map fun q=>β q.1):=Jb1 fun q hq=>by
  obtain⟨tid,hl⟩:=hlook q hq
  obtain⟨⟨cs,c1,c2⟩,_⟩:=h.ob (Qy hl:Qh S.flat.mem q.1=_)
  exact⟨tid,cs,c1,c2⟩
 have hbs:∀b∈bl.map (fun q=>β q.1),b<w.heap.size∧b∉Gb w.heap.size (Qj β ρ S1.flat.mem):=fun b hb=>by
  obtain⟨q,hq,rfl⟩:=QZ.1 hb
  obtain⟨tid,hl⟩:=hlook q hq
  obtain⟨⟨cs,c1,c2⟩,_⟩:=h.ob (Qy hl:Qh S.flat.mem q.1=_)
  refine⟨Vb c1,fun hbl2=>?_⟩
  obtain⟨_,t,ht,htb⟩:=Kr.1 hbl2
  obtain⟨z,hz,rfl⟩:=QZ.1 ht
  obtain⟨hz1,hz2⟩:=hsubM z hz
  have hpw:S.flat.mem.Pairwise fun s t=>∀g,(Qv β ρ s.1 s.2).blks g→¬ (Qv β ρ t.1 t.2).blks g:=JY.1 h.dOO
  have hm:=Qbh hl
  rcases Q89 (fun a b hab g hg hg2=>hab g hg2 hg) hpw z hz1 (q.1,.var tid (.d q.2.1 q.2.2)) (List.mem_append_left _ hm)with e | e
  ·subst e
   rcases hz2 with hz2 | hz2
   ·have:=(QD.1 hz2).2
    rw[show Yj (bl.map Prod.fst) q.1=true from Qlu (QZ.2 ⟨q,hq,rfl⟩)]at this
    cases this
   ·
    have hpw2:=QG.1 hpw
    exact hpw2.2.2 _ hm _ hz2 (β q.1) rfl rfl
  ·exact e (β q.1) htb rfl
 have hoklt:∀b o,okR X β ρ S.flat.mem w b o→b<w.heap.size:=fun b o hbo=>hbo.2.1
 have hxl:=Qzo hx
 have hpw0:S.flat.mem.Pairwise fun s t=>∀g,(Qv β ρ s.1 s.2).blks g→¬ (Qv β ρ t.1 t.2).blks g:=JY.1 h.dOO
 have hnd:(bl.map fun q=>β q.1).Nodup:=by
  have key:∀(l:List (Nat×DV)),(∀q∈l,q∈bl)→Ow (l.map Prod.fst)=true→(l.map fun q=>β q.1).Nodup:=by
   intro l
   induction l with
   | nil=>grind
   | cons q l ih =>
    intro hs hn
    simp only[QT,Ow,QQ,JF]at hn
    refine List.pairwise_cons.2 ⟨fun b hb e=>?_,ih (fun z hz=>hs z (.tail _ hz)) hn.2⟩
    obtain⟨z,hz,hzb⟩:=QZ.1 hb
    obtain⟨t1,l1⟩:=hlook q (hs q (.head _))
    obtain⟨t2,l2⟩:=hlook z (hs z (.tail _ hz))
    rcases Q89 (fun a b hab g hg hg2=>hab g hg2 hg) hpw0 _ (List.mem_append_left _ (Qbh l1)) _ (List.mem_append_left _ (Qbh l2))with e2 | e2
    ·have e3:q.1=z.1:=by injection e2
     have:Yj (l.map Prod.fst) q.1=true:=Qlu (QZ.2 ⟨z,hz,e3.symm⟩)
     rw[hn.1]at this; cases this
    ·exact e2 (β q.1) rfl (e.trans hzb.symm)
  grind
 have hbno:∀b∈bl.map (fun q=>β q.1),∀o,¬ okR X β ρ S.flat.mem w b o:=fun b hb o hbo=>by
  obtain⟨q,hq,rfl⟩:=QZ.1 hb
  obtain⟨tid,hl⟩:=hlook q hq
  exact hbo.2.2.2 _ (QZ.2 ⟨_,List.mem_append_left _ (Qbh hl),rfl⟩) rfl
 have hbok:∀b∈bl.map (fun q=>β q.1),∀o,okR X β ρ S1.flat.mem w b o:=fun b hb o=>by
  have hb':=hb
  obtain⟨q,hq,rfl⟩:=QZ.1 hb
  obtain⟨tid,hl⟩:=hlook q hq
  obtain⟨_,hmine⟩:=h.ob (Qy hl:Qh S.flat.mem q.1=_)
  exact⟨X.mine_ok (hmine _ rfl) o,(hbs _ hb').1,by simp,fun t ht hc=>(hbs _ hb').2 (Kr.2 ⟨(hbs _ hb').1,t,ht,t.cb hc⟩)⟩
 have hGw:Ud Y.gl (okR X β ρ S.flat.mem w) w:=Oe h hK.2
 have hcall:=hit _ w _ x es hoklt hGw hes (by rw[hxl]; exact hbox) hnd hbno
 obtain⟨hR',hG'⟩:=Qz2 hK.2 h1 hV
 obtain⟨X',hX'⟩:∃X',X'=reX X β ρ S1.flat.mem w:=⟨_,rfl⟩
 rw[←hX']at hR' hG'
 have hXn:X'.n=n:=by rw[hX']; exact hX
 have hXr:X'.res=[]:=by rw[hX']; rfl
 have hXp:X'.pin=none:=by rw[hX']; rfl
 have hXd:X'.dfs=[]:=by rw[hX']; exact hdf
 have hXw:X'.w=w:=by rw[hX']; rfl
 have hXl:X'.lent=Gb w.heap.size (Qj β ρ S1.flat.mem):=by rw[hX']; rfl
 have hK':KsX P Y X' K:=⟨hK.1,hG'⟩
 obtain⟨β0,ρ0,hag0,hR0⟩:=Ma (S0:=S1) hR' ⟨rfl,rfl,rfl⟩ hs0
 obtain⟨f,hf⟩:∃f,f=rdR Y K n N Γ (u:=it.u) S1 p aA aB A B:=⟨_,rfl⟩
 rw[←hf]at hfold
 have hadf:a.defers=[]:=h.df.trans hdf
 refine wpIn_rangeFunc fun fn hfn=>?_
 obtain⟨rec,hrec⟩:∃rec:LoopState→Option Code→Loop,rec=fun st pe=>{ state:=st,pending:=pe,fn,tmps:=a.tmps,params:=⟨[p]⟩,assign:=A,body:=B,defers:=w.heap.size }:=⟨_,rfl⟩
 obtain⟨W1,hW1⟩:∃W1,(w.alloc (.deferred (some []))).alloc (.loop (rec .ready none))=W1:=⟨_,rfl⟩
 have hL1:W1.heap[w.heap.size+1]?=some (.loop (rec .ready none)):=by
  rw[←hW1]; have:=World.alloc_heap_new (w.alloc (.deferred (some []))) (.loop (rec .ready none)); rwa[World.size_alloc]at this
 have hD1:W1.heap[w.heap.size]?=some (.deferred (some [])):=by
  rw[←hW1]; exact(Below.heap_alloc _ _ _ (by simp)).trans (World.alloc_heap_new w _)
 have hb1:Below w.heap.size w W1:=by
  rw[←hW1]; exact(((Below.refl _ w).alloc (QY _) _).alloc (by simp) _)
 obtain⟨J,hJ⟩:∃J:Nat→(Nat→Prop)→World→Prop,J=fun k O W=>∃s β' ρ',Qpa f (es.drop k) s=some sE∧agP S1.prot β β' ρ ρ'∧Rel X' β' ρ' (S1.re (enc Γ s)).flat a W ∧
  W.heap[w.heap.size+1]?=some (.loop (rec .ready none))∧W.heap[w.heap.size]?=some (.deferred (some []))∧O=fun b=>∃t∈Qj β' ρ' (S1.re (enc Γ s)).flat.mem,t.blks b:=⟨_,rfl⟩
 refine⟨w.heap.size+1,[{ target:=.collected w.heap.size,args:=#[] }],W1,{ target:=.fn (.func it.f) us.toArray,args:=#[.func (.yield (w.heap.size+1)) #[] #[]] },W1,it.f,
  #[.func (.yield (w.heap.size+1)) #[] #[]]++us.toArray,W1,?_,?_,fun _ _=>trivial,?_,(fun h=>by cases h),?_⟩
 ·rw[←hW1,hrec]; simp[run_enterLoop_outer]
 ·simp only[resolve,hev']
  simp[go_sem]
 ·grind [invoke,Qk1]
 have hown:∀k O A,J k O A→∀b,O b→b<A.heap.size∧(∀o,¬ okR X β ρ S.flat.mem w b o)∧b∉bl.map (fun q=>β q.1):=fun k O A hJk b hOb=>by
  rw[hJ]at hJk
  obtain⟨s,β',ρ',_,_,hRk,_,_,rfl⟩:=hJk
  obtain⟨t,ht,htb⟩:=hOb
  have hm:=(hRk.own t ht).2 b htb
  refine⟨hRk.olt ht htb,fun o hbo=>?_,fun hb=>?_⟩
  ·rcases hm with q | q
   ·rw[hXw]at q; have:=hbo.2.1; omega
   ·rw[hXl]at q
    obtain⟨_,t2,ht2,htb2⟩:=Kr.1 q
    obtain⟨z,hz,rfl⟩:=QZ.1 ht2
    have hcv:=Js5 hV _ ht2 b o htb2
    exact hbo.2.2.2 _ (QZ.2 ⟨z,(hsubM z hz).1,rfl⟩) hcv
  ·rcases hm with q | q
   ·rw[hXw]at q; have:=(hbs b hb).1; omega
   grind
 have hcall1:=hcall (w.heap.size+1) J W1 (fun b=>∃t∈Qj β0 ρ0 (S1.re (enc Γ s0)).flat.mem,t.blks b) hb1 (fun k O A' B' hA hAB=>by
  rw[hJ]at hA ⊢
  obtain⟨s,β',ρ',j1,j2,j3,j4,j5,j6⟩:=hA
  exact⟨s,β',ρ',j1,j2,Sb.below j3 hAB,(hAB.block _ (Vb j4)).trans j4,(hAB.block _ (Vb j5)).trans j5,j6⟩) hown ?round (by
  rw[hJ]
  exact⟨s0,β0,ρ0,hfold,hag0,Sb.below hR0 hb1,hL1,hD1,rfl⟩) (m - 1)
 case round =>
  intro k O W e v hJk he hv m1
  rw[hJ]at hJk
  obtain⟨s,β',ρ',j1,j2,j3,j4,j5,hO⟩:=hJk
  have hkl:k<es.length:=(List.getElem?_eq_some_iff.1 he).1
  rw[List.drop_eq_getElem_cons hkl]at j1
  have hek:es[k]=e:=by rw[List.getElem?_eq_getElem hkl]at he; grind
  rw[hek]at j1
  obtain⟨s',hs',j1'⟩:=Yq j1
  have hs'0:=hs'
  rw[hf]at hs'
  unfold rdR at hs'
  obtain⟨hV1,hs'⟩:=bvT hs'
  have hy:=run_yield (P:=P) (args:=#[v]) j4 (by rw[hrec]; rfl)
  rw[hrec]at hy
  refine⟨fn,_,A,B,hy,roundIn_of_wpIn hfn ?_⟩
  have hact:({ tmps:=((⟨[p]⟩:Array Tmp).zip #[v]).foldl (fun tmps (t,a)=>tmps.setIfInBounds t a) a.tmps,defers:=[] }:Act)=a.put (some p) v:=by
   simp[Act.put,←hadf]
  rw[hact]
  obtain⟨hpd,hpo⟩:=Y2 (S:=S1.re (enc Γ s)) hp hXn hXr
  have hval:isV (rt it.u) (okR X' β' ρ' (S1.re (enc Γ s)).flat.mem W) W e v:=by
   refine hv.weak fun b o hbo=>?_
   refine⟨?_,hbo.2.1,by simp,fun t ht hc=>hbo.2.2 (by rw[hO]; exact⟨t,ht,t.cb hc⟩)⟩
   rcases hbo.1 with q | q | q
   ·exact .inl (by rw[hX']; exact .inl (hokW b o q))
   ·grind
   ·exact .inl (by rw[hX']; exact .inl (hbok b q o))
  obtain⟨c,hc1,hc2⟩:=Qhj hval
  have hput:Rel X' β' ρ' ((S1.re (enc Γ s)).put p [] (.d it.u e)).flat (a.put (some p) v) W:=by
   rw[Kx hpo,hc2]
   exact j3.put0 hpd hc1
  have hVp:V2 ((S1.re (enc Γ s)).put p [] (.d it.u e)).flat.mem=true:=hV1
  obtain⟨hR2,hG2⟩:=Qz2 hG' hput hVp
  have hl4:W.heap.size>w.heap.size+1:=Vb j4
  have hnoL:∀{X0:Cx} {β1:Nat→Nat} {ρ1:Nat→Value} {S2:St} {a2:Act} {W2:World},Rel X0 β1 ρ1 S2 a2 W2→(∀r,W2.heap[w.heap.size+1]?=some (.loop r)→w.heap.size+1∉Gb W2.heap.size (Qj β1 ρ1 S2.mem))∧(∀r,W2.heap[w.heap.size]?=some (.deferred r)→w.heap.size∉Gb W2.heap.size (Qj β1 ρ1 S2.mem)):=by
   intro X0 β1 ρ1 S2 a2 W2 hR
   refine⟨fun r hl hm=>?_,fun r hl hm=>?_⟩
   ·obtain⟨_,t,ht,htb⟩:=Kr.1 hm
    exact hR.notOwn hl rfl (fun _ _=>by simp) t ht htb
   ·obtain⟨_,t,ht,htb⟩:=Kr.1 hm
    exact hR.notOwn hl rfl (fun _ _=>by simp) t ht htb
  have hsame0:Mc (p::(Kl A++Kl B)) a (a.put (some p) v):=Mc.put (fun t _=>rfl) (fun d hd=>by grind) v
  refine Sn (X:=reX X' β' ρ' ((S1.re (enc Γ s)).put p [] (.d it.u e)).flat.mem W) (ds:=p::(Kl A++Kl B)) (a0:=a) hT hmix ⟨hK.1,hG2⟩ hXn rfl rfl aA hbA (by rintro⟨_,_,hh⟩; exact hh) (fun d hd=>.tail _ (List.mem_append_left _ hd)) hsame0 hR2 hs' fun ex β2 ρ2 S2 a2 W2 q1 q2 q3 q4=>?_
  cases ex with
  | x i=>cases q1
  | r=>cases q1
  | n =>
   simp only at q1
   obtain⟨hV2,q1⟩:=bvT q1
   have hl2:W2.heap[w.heap.size+1]?=some (.loop (rec .ready none)):=(q3.bel.block _ hl4 ((hnoL hput).1 _ j4)).trans j4
   have hd2:W2.heap[w.heap.size]?=some (.deferred (some [])):=(q3.bel.block _ (by show w.heap.size<W.heap.size; omega) ((hnoL hput).2 _ j5)).trans j5
   have q3':=Qz3 hput hVp hXr hXp q3
   refine⟨_,run_beginRound hl2 (by rw[hrec]),?_⟩
   have q5:Rel X' β2 ρ2 S2.flat a2 (W2.putObj (w.heap.size+1) (.loop { rec .ready none with state:=.busy })):=q3'.turn (by rw[hXw]; omega) hl2 rfl (fun _ _=>by simp) rfl
   have hl3:(W2.putObj (w.heap.size+1) (.loop { rec .ready none with state:=.busy })).heap[w.heap.size+1]?=some (.loop { rec .ready none with state:=.busy }):=World.putObj_heap_same (Vb hl2)
   have hd3:(W2.putObj (w.heap.size+1) (.loop { rec .ready none with state:=.busy })).heap[w.heap.size]?=some (.deferred (some [])):=(World.putObj_heap_other (by omega)).trans hd2
   obtain⟨W3,hW3⟩:∃W3,W3=W2.putObj (w.heap.size+1) (.loop { rec .ready none with state:=.busy }):=⟨_,rfl⟩
   rw[←hW3]at q5 hl3 hd3 ⊢
   obtain⟨hR3,hG3⟩:=Qz2 hG' q5 hV2
   refine Sn (X:=reX X' β2 ρ2 S2.flat.mem W3) (ds:=p::(Kl A++Kl B)) (a0:=a) hT hmix ⟨hK.1,hG3⟩ hXn rfl rfl aB hbB (by rintro⟨_,_,hh⟩; exact hh) (fun d hd=>.tail _ (List.mem_append_right _ hd)) q4 hR3 q1 fun ex β3 ρ3 S3 a3 W4 r1 r2 r3 r4=>?_
   cases ex with
   | x i=>cases r1
   | r=>cases r1
   | n =>
    simp only at r1
    have hl4':W4.heap[w.heap.size+1]?=some (.loop { rec .ready none with state:=.busy }):=(r3.bel.block _ (Vb hl3) ((hnoL q5).1 _ hl3)).trans hl3
    have hd4:W4.heap[w.heap.size]?=some (.deferred (some [])):=(r3.bel.block _ (Vb hd3) ((hnoL q5).2 _ hd3)).trans hd3
    have hk3:S3.fix=S1.fix∧S3.fixM=S1.fixM∧S3.prot=S1.prot:=⟨r2.fix.trans q2.fix,r2.fixM.trans q2.fixM,r2.prot.trans q2.prot⟩
    obtain⟨β4,ρ4,hag4,hR40⟩:=Ma (S0:=S1) r3 hk3 r1
    have hR4:=Qz3 q5 hV2 hXr hXp hR40
    have hR5:Rel X' β4 ρ4 (S1.re (enc Γ s')).flat a W4:=by
     have henv:(S1.re (enc Γ s')).flat.env=S1.fix:=by
      grind [enc,O6,toL,XS.flat,XS.re]
     have hsz:a.tmps.size=a3.tmps.size:=j3.sz.trans hR4.sz.symm
     refine Rel.act (S:=(S1.re (enc Γ s')).flat) (env':=(S1.re (enc Γ s')).flat.env) hR4 hsz (by rw[hadf,hR4.df,hXd]) (by rw[hXr]; simp) fun e0 he0=>?_
     have hen:=hR4.en he0
     rw[henv]at he0
     have hsm:∀t,t∉p::(Kl A++Kl B)→a.tmps[t]?=a3.tmps[t]?:=fun t ht=>(r4 t ht).symm
     have hoffd:e0.t∉p::(Kl A++Kl B)∧∀c∈e0.cs,c.1∉p::(Kl A++Kl B):=⟨fun hm=>(Qfm (hoff _ hm) e0 he0).1 rfl,fun c hc hm=>(Qfm (hoff _ hm) e0 he0).2 c hc rfl⟩
     have hcc:J3 a e0.cs↔J3 a3 e0.cs:=⟨fun hc c hm=>by rw[←hsm _ (hoffd.2 c hm)]; exact hc c hm,fun hc c hm=>by rw[hsm _ (hoffd.2 c hm)]; exact hc c hm⟩
     have hrd:rd a e0.t=rd a3 e0.t:=by grind [rd]
     refine⟨fun hc=>?_,?_⟩
     ·obtain⟨cs,z1,z2⟩:=hen.1 (hcc.1 hc)
      grind
     ·rw[hcc,hrd]; exact hen.2
    refine⟨_,_,run_endRound none hl4',rfl,?_⟩
    have hre:({ ({ rec .ready none with state:=.busy }:Loop)with state:=if(none:Option Code).isNone then .ready else .done,pending:=none }:Loop)=rec .ready none:=by rw[hrec]; rfl
    rw[hre]
    have ag2:agP S1.prot β' β2 ρ' ρ2:=q2.ag
    have ag3:agP S1.prot β2 β3 ρ2 ρ3:=by have:=r2.ag; rw[show S2.prot=S1.prot from q2.prot]at this; exact this
    have own2:∀b,b∈Gb W3.heap.size (Qj β2 ρ2 S2.flat.mem)→O b∨W.heap.size≤b:=fun b hb=>by
     obtain⟨_,t,ht,htb⟩:=Kr.1 hb
     rcases(q3.own t ht).2 b htb with z | z
     ·exact .inr z
     ·obtain⟨_,t2,ht2,htb2⟩:=Kr.1 z
      exact .inl (by rw[hO]; exact⟨t2,ht2,htb2⟩)
    have hsz2:W.heap.size≤W2.heap.size:=q3.bel.size
    have hsz3:W.heap.size≤W3.heap.size:=by rw[hW3,World.putObj_size]; exact hsz2
    have keep:∀b,b<W.heap.size→¬ O b→b≠w.heap.size+1→W4.heap[b]?=W.heap[b]?:=fun b hb hOb hbl=>by
     have e1:W4.heap[b]?=W3.heap[b]?:=r3.bel.block b (show b<W3.heap.size by omega) fun hm=>by
      rcases own2 b hm with z | z
      ·exact hOb z
      ·omega
     have e2:W3.heap[b]?=W2.heap[b]?:=by rw[hW3]; exact World.putObj_heap_other hbl
     have e3:W2.heap[b]?=W.heap[b]?:=q3.bel.block b hb fun hm=>by
      obtain⟨_,t2,ht2,htb2⟩:=Kr.1 hm
      exact hOb (by rw[hO]; exact⟨t2,ht2,htb2⟩)
     rw[e1,e2,e3]
    refine⟨fun b=>∃t∈Qj β4 ρ4 (S1.re (enc Γ s')).flat.mem,t.blks b,by
     rw[hJ]
     exact⟨s',β4,ρ4,j1',((j2.trans ag2).trans ag3).trans hag4,hR5.turn (by rw[hXw]; omega) hl4' rfl (fun _ _=>by simp) rfl,World.putObj_heap_same (Vb hl4'),(World.putObj_heap_other (by omega)).trans hd4,rfl⟩,fun b hb=>?_,?_,fun b hb hOb=>?_⟩
    ·obtain⟨t,ht,htb⟩:=hb
     rcases(hR40.own t ht).2 b htb with z | z
     ·exact .inr (QW hsz3 z)
     ·exact own2 b z
    ·have:=r3.bel.size
     simp only[World.putObj_size]
     exact QW hsz3 this
    grind [World.putObj_heap_same,Vb,World.putObj_heap_other]
 rw[husv]
 refine hcall1.mono ?_
 rintro e W2 ⟨⟨v,rfl⟩,O,hJe⟩
 rw[hJ]at hJe
 obtain⟨s,β',ρ',j1,j2,j3,j4,j5,_⟩:=hJe
 rw[ZZ]at j1
 have hsE:s=sE:=Option.some.inj j1
 subst hsE
 refine⟨none,_,by have:=run_endLoop (P:=P) j4 (by rw[hrec]; simp); rw[hrec]at this; exact this,?_⟩
 have j6:=j3.turn (o':=.loop { rec .ready none with state:=.exhausted }) (by rw[hXw]; omega) j4 rfl (fun _ _=>by simp) rfl
 rw[hX']at j6
 have j7:=Qz3 h1 hV hr hpin j6
 have j8:=j7.withD [⟨.collected w.heap.size,#[]⟩]
 have e1:([{ target:=.collected w.heap.size,args:=#[] }]++a.defers:List Deferred)=[⟨.collected w.heap.size,#[]⟩]:=by rw[hadf]; rfl
 rw[e1]
 rw[hrec]at j8
 refine H β' ρ' _ w.heap.size (by rw[←hprot]; exact j2) ?_ ((World.putObj_heap_other (by omega)).trans j5) h.bel.size
 rw[Qfq]
 rw[hS1]at j8
 exact j8
end
end Gx

/- Functions with a range over a function. -/
namespace Gx
open Go Go.RowKit Gd
set_option linter.unusedVariables false
set_option linter.unusedSimpArgs false
section
variable {P:Program} {Y:TX} {X:Cx} {n N:Nat} {K:List Con}
def Jb2(X:Cx)(D:Nat):Cx:={ X with dfs:=[⟨.collected D,#[]⟩] }
theorem Qq5(hT:Q0 P Y.T)(hmix:P.follows .mixedOrders=true)(hK:KsX P Y X K)(hX:X.n=n)(hr:X.res=[])(hpin:X.pin=none)(hdf:X.dfs=[]){its:List It}(hits:∀it∈its,Jfm P Y.gl it∧Runs P it.f){m:Nat} :
  ∀{R:Type} {r:R} (an:AnR) {c:Code} {S:XS} {β:Nat→Nat} {ρ:Nat→Value} {a:Act} {w:World} {k:Ex→XS→Option R} {Q:Exit→Act→World→Prop},
  Rel X β ρ S.flat a w→Qj1 Y K n N its an c S k=some r →
  (∀(D:Nat) (e:Ex) (β':Nat→Nat) (ρ':Nat→Value) (S':XS) (a':Act) (w':World),k e S'=some r→Vh S S' β β' ρ ρ'→Rel (Jb2 X D) β' ρ' S'.flat a' w'→w'.heap[D]?=some (.deferred (some []))→X.w.heap.size≤D→Q e.exit a' w')→c.wpIn Fence.wide m P Q a w
 | R,r,.pre an rn,c,S,β,ρ,a,w,k,Q,h,hs,H=>by
  cases c<;>simp only[Qj1]at hs<;>first | (cases hs; done) | skip
  rename_i x y
  refine wpIn_seq (wpIn_wide.2 (Ux hT hmix hK hX hr hpin an h hs fun e β' ρ' S' a' w' h1 h2 h3=>?_))
  cases e with
  | n=>exact Qq5 hT hmix hK hX hr hpin hdf hits rn h3 h1 fun D e β2 ρ2 S2 a2 w2 q1 q2 q3 q4 q5=>H D e β2 ρ2 S2 a2 w2 q1 (h2.trans q2) q3 q4 q5
  | x i=>cases h1
  | r=>cases h1
 | R,r,.inn rn an,c,S,β,ρ,a,w,k,Q,h,hs,H=>by
  cases c<;>simp only[Qj1]at hs<;>first | (cases hs; done) | skip
  rename_i x y
  refine wpIn_seq (Qq5 hT hmix hK hX hr hpin hdf hits rn h hs fun D e β' ρ' S' a' w' h1 h2 h3 h4 h5=>?_)
  cases e with
  | x i=>cases h1
  | r=>cases h1
  | n =>
   obtain⟨hV,h1⟩:=bvT h1
   have hG1:Ud Y.gl (okN (Jb2 X D)) (Jb2 X D).w:=hK.2
   obtain⟨hR2,hG2⟩:=Qz2 hG1 h3 hV
   have hnl:D∉Gb w'.heap.size (Qj β' ρ' S'.flat.mem):=fun hm=>by
    obtain⟨_,t,ht,htb⟩:=Kr.1 hm
    exact h3.notOwn h4 rfl (fun _ _=>by simp) t ht htb
   show y.wpIn Fence.wide m P Q a' w'
   refine wpIn_wide.2 (Ux (X:=reX (Jb2 X D) β' ρ' S'.flat.mem w') hT hmix ⟨hK.1,hG2⟩ hX rfl rfl an hR2 h1 fun e β2 ρ2 S2 a2 w2 q1 q2 q3=>?_)
   exact H D e β2 ρ2 S2 a2 w2 q1 (h2.trans q2) (Qz3 h3 hV hr hpin q3) ((q3.bel.block D (Vb h4) hnl).trans h4) h5
 | R,r,.un rn,c,S,β,ρ,a,w,k,Q,h,hs,H=>by
  cases c<;>simp only[Qj1]at hs<;>first | (cases hs; done) | skip
  rename_i id c1
  refine wpIn_block (Qq5 hT hmix hK hX hr hpin hdf hits rn h hs fun D e β' ρ' S' a' w' h1 h2 h3 h4 h5=>?_)
  cases e with
  | x i=>cases h1
  | r=>cases h1
  | n=>exact H D .n β' ρ' S' a' w' h1 h2 h3 h4 h5
 | R,r,.rf i ks ms Γ aA aB,c,S,β,ρ,a,w,k,Q,h,hs,H=>by
  cases c<;>first | (simp only[Qj1]at hs; cases hs; done) | skip
  rename_i g ps A B
  obtain⟨ps⟩:=ps
  match g,ps,hs with
  | .tmp g,[p],hs =>
   simp only[Qj1]at hs
   split at hs
   ·rename_i it gf caps hit hg
    split at hs
    ·rename_i bl hbl
     split at hs
     ·rename_i x hx
      obtain⟨hb,hs2⟩:=bvT hs
      simp only[QQ]at hb
      obtain⟨⟨⟨⟨⟨⟨b1,b2,b3⟩,b4⟩,b5⟩,b6⟩,b8⟩,b7⟩:=hb
      have hfe:=Nat.eq_of_beq_eq_true b1
      subst hfe
      obtain⟨es,hes,hs3⟩:=Yq hs2
      split at hs3
      ·rename_i s0 hs0
       obtain⟨sE,hfold,hk⟩:=Yq hs3
       have hΓ:Γ.env=[]:=by
        cases hE:Γ.env with
        | nil=>rfl
        | cons q l=>rw[hE]at b5; cases b5
       obtain⟨hi1,hi2⟩:=hits it (List.mem_of_getElem? hit)
       exact Jvc hT hmix hK hX hr hpin hdf hi1 hi2 h hg hbl hx b2 b3 (fun d hd=>QP.1 b4 d hd) hΓ b6 b7 b8 hes hs0 hfold fun β' ρ' w' D q1 q2 q3 q4=>H D .n β' ρ' _ _ w' hk ⟨rfl,rfl,rfl,q1⟩ q2 q3 q4
      ·cases hs3
     ·cases hs
    ·cases hs
   ·cases hs
  | .tmp g,[],hs=>simp[Qj1]at hs
  | .tmp g,_::_::_,hs=>simp[Qj1]at hs
  | .const _,_,hs=>simp[Qj1]at hs
  | .global _,_,hs=>simp[Qj1]at hs
  | .func _,_,hs=>simp[Qj1]at hs
noncomputable def Jjn(Y:TX)(K:List Con)(N:Nat)(its:List It)(fn:Func)(an:AnR)(ro:List Nat)(Γ:Shp)(Δ:List Shp)(x:Γ.De):Option (Qa6 Δ):=match fn.body with
 | some c=>bif Nat.ble Γ.env.length fn.ntmps&&(Dp Γ.env 0&&Nat.blt Γ.env.length 100000)then Qj1 Y K fn.ntmps N its an c ⟨(enc Γ x).env,Qi1 Y.gl,wrM ro (enc Γ x).mem,rdM ro (enc Γ x).mem,Γ.mem.map Prod.fst⟩ fun e S=>match e with
  | .x _=>none
  | .n=>fin Y fn Δ S
  | .r=>fin Y fn Δ S else none
 | none=>none
theorem Jfn{f:FuncId}{fn:Func}{c:Code}{vs:List Value}{R:Value→World→Prop}{ok:Ok}{n m:Nat}{L:List Nat}{O:List TL}{w:World}(hok:∀b o,ok b o→b<w.heap.size)
  (hf:P.funcs[f]?=some fn) (hb:fn.body=some c) (hn:fn.ntmps=n) (hle:Nat.ble vs.length n=true) (hO:Qk5 O L ok w)
  (h:∀a,Sb (fun _=>0) (cxL L n ok w) (Q2k vs 0) [] [] O a w→c.wpIn Fence.wide m P (bodyPostM Fence.wide m P fn (Qy3 L w R)) a w):Calls P f ⟨vs⟩ w (Qy3 L w R):=by
 refine callsIn_wide.1 (callsIn_of_wp_marks (n:=m) hf hb trivial (h _ ?_))
 have hle':=QK hle
 have hk:∀b o,ok b o→Je (okL L ok) w.heap.size (fun _=>0) [] O w b o:=fun b o hbo=>⟨.inl (.inl hbo),hok b o hbo,by simp,fun t ht hc=>(hO.1 t ht).2.2 b o (t.cb hc) hbo⟩
 refine { sz:=by grind,df:=rfl,fr:=by simp,pn:=by simp,tm:=?_,bel:=Uz.refl _ _ _,dat:=trivial,obj:=by simp,own:=fun t ht=>⟨t.weak (hO.1 t ht).1 hk,fun g hg=>.inr ((hO.1 t ht).2.1 g hg)⟩,dHH:=by simp,dHO:=by simp,dOO:=hO.2.1 }
 intro p hp
 obtain⟨j,v,rfl,hv⟩:=Q2l hp
 have hj:=(List.getElem?_eq_some_iff.1 hv).1
 simp_all [QV,My,XK]
theorem Jjo(hT:Q0 P Y.T)(hmix:P.follows .mixedOrders=true)(hK:Q36 P Y.gl K){its:List It}(hits:∀it∈its,Jfm P Y.gl it∧Runs P it.f){f:FuncId}{fn:Func}(hf:P.funcs[f]?=some fn){an:AnR}{c:Con}(hcf:c.f=f)(hrun:∀x,c.fn x=Jjn Y K N its fn an c.ro c.Γ c.Δ x):Qbb P Y.gl c:=by
 intro ok w L β ρ x y vs hok hG hlen hL hargs hy
 rw[hrun]at hy
 unfold Jjn at hy
 split at hy
 ·rename_i code hb
  obtain⟨hc,hy⟩:=bvT hy
  simp only[QQ]at hc
  rw[hcf]
  refine Jfn (n:=fn.ntmps) (m:=1) (L:=L) (O:=Qj β ρ (enc c.Γ x).mem) hok hf hb rfl (by rw[hlen]; exact hc.1) hL fun a h0=>?_
  have hR:=Jbx (Y:=Y) (fn:=fn) hc.2.1 hc.2.2 hok hG hL hargs h0
  have hGX:Ud Y.gl (okN (cxL L fn.ntmps ok w)) w:=hG.weak fun b o hbo=>⟨.inl hbo,fun hbl=>hL.2.2 b hbl |>.elim fun t ht=>(hL.1 t ht.1).2.2 b o ht.2 hbo,hok b o hbo⟩
  refine Qq5 (X:=cxL L fn.ntmps ok w) hT hmix ⟨hK,hGX⟩ rfl rfl rfl rfl hits an hR hy fun D e β' ρ' S' a' w' h1 h2 h3 h4 h5=>?_
  have h6:=(h3.turn (o':=.deferred none) (show(cxL L fn.ntmps ok w).w.heap.size≤D from h5) h4 rfl (fun _ _=>by simp) rfl).withD []
  have h7:Rel (cxL L fn.ntmps ok w) β' ρ' S'.flat { a' with defers:=[] } (w'.putObj D (.deferred none)):=h6
  have key:=Jbz (Y:=Y) (y:=y) hT h2 h7
  have hdf:a'.defers=[⟨.collected D,#[]⟩]:=h3.df
  have fin2:fin Y fn c.Δ S'=some y→LeavesInM Fence.wide 1 P fn a'.tmps (Qy3 L w (Q3z c β ρ ok L w x y)) a'.defers .returning w':=fun hfin=>by
   obtain⟨_,v,hres,v2,hv2,hpost⟩:=key hfin
   rw[hdf]
   refine⟨by simp,.inl ⟨D,_,rfl,run_takeDeferred h4,?_⟩⟩
   exact⟨v,hres,v2,hv2,hpost⟩
  cases e with
  | n=>exact fin2 h1
  | x i=>cases h1
  | r=>exact fin2 h1
 ·cases hy
end
end Gx

/- Iterators: functions that call yield. -/
namespace Gx
open Go Go.RowKit Gd
set_option linter.unusedVariables false
set_option linter.unusedSimpArgs false
inductive HnY where
 | done
 | h (m:Nat) (hn:Hn) (r:HnY)
 | mv (r:HnY)
 | yl (r:HnY)
 | so (t:Nat) (a b:HnY)
inductive AnY where
 | nil
 | reg (h:Hn)
 | yr (h:HnY)
 | two (a b:AnY)
 | un (a:AnY)
 | lp (ks ms:List Nat) (Γ:Shp) (exs:Exs) (a:AnY)
section
variable (Y:TX) (K:List Con) (n N:Nat) (u:Ty)
def gOk(ops:List Oper)(o:Oper)(S:XS):Bool:=match Qju ops o with
 | some none=>true
 | some (some (t,want))=>match Xn S.flat.env t with
  | some ⟨_,[],.d .bool b⟩=>b==want
  | _=>false
 | none=>false
def Cp{R:Type}(ops:List Oper):HnY→List Oper→List Nat→XS→List u.De→(XS→List u.De→Option R)→Option R
 | .done,l,ys,S,acc,k=>match l with
  | []=>k S acc
  | _::_=>none
 | .h m hn r,l,ys,S,acc,k=>bif Qcz (l.take m)&&Qd6 (Wh (l.take m)) ys then Va Y K n ops hn (l.take m) S fun S'=>Cp ops r (l.drop m) ys S' acc k else none
 | .mv r,l,ys,S,acc,k=>match l with
  | o::l'=>match o.op,o.dst with
   | .move (.tmp t),some d=>bif Yj ys t&&okW n S d&&gOk ops o S then Cp ops r l' (d::ys) { S with env:=Jx S.env d } acc k else none
   | _,_=>none
  | []=>none
 | .yl r,l,ys,S,acc,k=>match l with
  | o::l'=>match o.op,o.dst with
   | .call ⟨.value (.tmp t),⟨[x]⟩,_⟩,some d=>match S.ev [] x with
    | some v=>match asD [] v u with
     | some y=>bif Yj ys t&&okW n S d&&gOk ops o S&&!Yj ys d&&(u.agg==v.isAgg)&&Jip S.fixM then Cp ops r l' ys (XS.put { S with mem:=[] } d [] (.d .bool true)) (acc++[y]) k else none
     | none=>none
    | none=>none
   | _,_=>none
  | []=>none
 | .so t a b,l,ys,S,acc,k=>match Xn S.env t with
  | some ⟨_,[],.d .bool v⟩=>bif Rr t S.fix then(if v=true then Cp ops a l ys (S.put t [] (.d .bool true)) acc k else Cp ops b l ys (S.put t [] (.d .bool false)) acc k)else none
  | _=>none
def Bp{R:Type}:AnY→Code→XS→List u.De→(Ex→XS→List u.De→Option R)→Option R
 | .nil,.skip,S,acc,k=>k .n S acc
 | .nil,.ret,S,acc,k=>k .r S acc
 | .nil,.exit id,S,acc,k=>k (.x id) S acc
 | .reg h,.region _ ⟨ops⟩ false,S,acc,k=>bif Qcz ops&&Qd6 (Wh ops) [0]then Va Y K n ops h ops S fun S'=>k .n S' acc else none
 | .yr h,.region _ ⟨ops⟩ false,S,acc,k=>bif Qd6 (Wh ops) [0]then Cp Y K n u ops h ops [0] S acc (k .n)else none
 | .two a b,.seq x y,S,acc,k=>Bp a x S acc fun e S' acc'=>match e with
  | .n=>Bp b y S' acc' k
  | .x i=>k (.x i) S' acc'
  | .r=>k .r S' acc'
 | .two a b,.cond c x y,S,acc,k=>match S.ev [] c with
  | some (.d .bool v)=>if v=true then Bp a x S acc k else Bp b y S acc k
  | _=>none
 | .un a,.block id c,S,acc,k=>Bp a c S acc fun e S' acc'=>match e with
  | .n=>k .n S' acc'
  | .x i=>bif Nat.beq i id then k .n S' acc' else k (.x i) S' acc'
  | .r=>k .r S' acc'
 | .lp ks ms Γ exs a,.loop c,S,acc,k=>match (S.ent ks ms).dec Γ with
  | some s0=>(Ql (fun(q:Γ.De×List u.De)=>Bp (R:=(Γ.De×List u.De)⊕(Qet exs×List u.De)) a c ((S.ent ks ms).re (enc Γ q.1)) q.2 fun e S' acc'=>match e with
    | .n=>(match S'.dec Γ with
     | some s'=>some (.inl (s',acc'))
     | none=>none)
    | .x i=>(match inj exs (.x i) S' with
     | some x=>some (.inr (x,acc'))
     | none=>none)
    | .r=>(match inj exs .r S' with
     | some x=>some (.inr (x,acc'))
     | none=>none)) N (s0,acc)).bind fun z=>Q3f S ks ms (fun e S'=>k e S' z.2) exs z.1
  | none=>none
 | _,_,_,_,_=>none
end
theorem Qc0:∀(l m:List Oper),Wh (l++m)=Wh l++Wh m
 | [],m=>rfl
 | o::l,m=>by
  simp only[QA,Wh,Qc0 l m]
  split<;>rfl
theorem Qte{l m:List Nat}(h:Qd6 l m=true){t:Nat}(hl:t∈l)(hm:t∈m):False:=by
 have:=QP.1 h t hl
 rw[Qlu hm]at this; cases this
theorem Q4m{l:List Nat}{t:Nat}:Yj l t=true→t∈l:=Qls
section
variable {P:Program} {Y:TX} {n N:Nat} {K:List Con} {u:Ty} {es:List u.De}
theorem Qtf{X:Cx}{β:Nat→Nat}{ρ:Nat→Value}{S:XS}{a:Act}{w:World}{ops:List Oper}{o:Oper}(h:Rel X β ρ S.flat a w)(hg:gOk ops o S=true):Region.wanted o (yielded ⟨ops⟩ a.tmps)=true:=by
 unfold gOk at hg
 split at hg
 ·grind [Zh,Qju]
 ·rename_i t want hgt
  split at hg
  ·rename_i t' b he
   rw[Ug hgt]
   obtain⟨cs,h1,h2⟩:=h.get he (Qf a)
   have h2':cs=_:=h2
   subst h2'
   rw[bEq hg]at h1
   exact h1
  ·cases hg
 ·cases hg
theorem Dr{R:Type}{r:R}{ops:List Oper}:∀(hn:HnY) {l:List Oper} {ys:List Nat} {S:XS} {acc:List u.De} {k:XS→List u.De→Option R},Cp Y K n u ops hn l ys S acc k=some r→(∀S' acc',k S' acc'=some r→acc' <+: es)→acc <+: es
 | .done,l,ys,S,acc,k,h,hk=>by
  unfold Cp at h
  grind
 | .h m hn rr,l,ys,S,acc,k,h,hk=>by
  unfold Cp at h
  obtain⟨_,h⟩:=bvT h
  obtain⟨S1,h1,_⟩:=Qsi h
  exact Dr rr h1 hk
 | .mv rr,l,ys,S,acc,k,h,hk=>by
  unfold Cp at h
  split at h
  ·split at h
   ·obtain⟨_,h⟩:=bvT h
    exact Dr rr h hk
   ·cases h
  ·cases h
 | .yl rr,l,ys,S,acc,k,h,hk=>by
  unfold Cp at h
  split at h
  ·split at h
   ·split at h
    ·split at h
     ·obtain⟨_,h⟩:=bvT h
      exact(List.prefix_append _ _).trans (Dr rr h hk)
     ·cases h
    ·cases h
   ·cases h
  ·cases h
 | .so t a b,l,ys,S,acc,k,h,hk=>by
  unfold Cp at h
  split at h
  ·obtain⟨_,h⟩:=bvT h
   split at h
   ·exact Dr a h hk
   ·exact Dr b h hk
  ·cases h
theorem Qtg{R:Type}{S:XS}{ks ms:List Nat}{k:Ex→XS→Option R}{r:R}:∀{l:Exs} {x:Qet l},Q3f S ks ms k l x=some r→∃e S',k e S'=some r
 | [],x,_=>nomatch x
 | [q],x,h=>⟨_,_,h⟩
 | q::q2::l,x,h=>by
  simp only[Q3f]at h
  split at h
  ·exact⟨_,_,h⟩
  ·exact Qtg h
theorem Iz:∀{R:Type} {r:R} (an:AnY) {c:Code} {S:XS} {acc:List u.De} {k:Ex→XS→List u.De→Option R},Bp Y K n N u an c S acc k=some r→(∀e S' acc',k e S' acc'=some r→acc' <+: es)→acc <+: es
 | R,r,.nil,c,S,acc,k,h,hk=>by
  cases c<;>simp only[Bp]at h<;>first | (cases h; done) | exact hk _ _ _ h
 | R,r,.reg hn,c,S,acc,k,h,hk=>by
  cases c with
  | region id ops draw =>
   obtain⟨ops⟩:=ops
   cases draw with
   | true=>simp[Bp]at h
   | false =>
    simp only[Bp]at h
    obtain⟨_,h⟩:=bvT h
    grind [Qsi]
  | _=>simp[Bp]at h
 | R,r,.yr hn,c,S,acc,k,h,hk=>by
  cases c with
  | region id ops draw =>
   obtain⟨ops⟩:=ops
   cases draw with
   | true=>simp[Bp]at h
   | false =>
    simp only[Bp]at h
    obtain⟨_,h⟩:=bvT h
    grind [Dr]
  | _=>simp[Bp]at h
 | R,r,.two a b,c,S,acc,k,h,hk=>by
  cases c<;>simp only[Bp]at h<;>first | (cases h; done) | skip
  ·refine Iz a h fun e S' acc' h'=>?_
   cases e with
   | n=>exact Iz b h' hk
   | x i=>exact hk _ _ _ h'
   | r=>exact hk _ _ _ h'
  ·split at h
   ·split at h
    ·exact Iz a h hk
    ·exact Iz b h hk
   ·cases h
 | R,r,.un a,c,S,acc,k,h,hk=>by
  cases c<;>simp only[Bp]at h<;>first | (cases h; done) | skip
  rename_i id c1
  refine Iz a h fun e S' acc' h'=>?_
  grind
 | R,r,.lp ks ms Γ exs a,c,S,acc,k,h,hk=>by
  cases c<;>simp only[Bp]at h<;>first | (cases h; done) | skip
  rename_i c1
  split at h
  ·rename_i s0 hs0
   obtain⟨z,hz,ho⟩:=Yq h
   obtain⟨e0,S0,hk0⟩:=Qtg ho
   have hzp:z.2 <+: es:=hk _ _ _ hk0
   obtain⟨f,hz,hf⟩:∃f,Ql f N (s0,acc)=some z∧f=_:=⟨_,hz,rfl⟩
   have main:∀(m:Nat) (q:Γ.De×List u.De),Ql f m q=some z→q.2 <+: es:=by
    intro m
    induction m with
    | zero=>grind [Ql]
    | succ m ih =>
     intro q hq
     simp only[Ql]at hq
     obtain⟨x,hx,hq⟩:=Yq hq
     rw[hf]at hx
     refine Iz a hx fun e S' acc' h'=>?_
     grind
   grind
  ·cases h
structure YCx(P:Program)(Y:TX)(K:List Con)(n:Nat)(ok:Ok)(w0:World)(bs:List Nat)(X:Cx)(O:Nat→Prop):Prop where
 hX:X.n=n
 hr:X.res=[]
 hp:X.pin=none
 hd:X.dfs=[]
 hl:X.lent=[]
 hK:KsX P Y X K
 hO:∀b,O b→b<X.w.heap.size∧∀o,¬ X.ok b o
 hC:∀b o,X.ok b o→ok b o∨w0.heap.size≤b∨b∈bs
 hW:w0.heap.size≤X.w.heap.size
theorem Qxe{X:Cx}{β:Nat→Nat}{ρ:Nat→Value}{S:St}{a:Act}{w:World}(h:Rel X β ρ S a w)(hl:X.lent=[]):Below X.w.heap.size X.w w:=by
 have:=h.bel
 rw[hl]at this
 exact this.nil
def reY(X:Cx)(β:Nat→Nat)(ρ:Nat→Value)(M:List (Nat×Ob))(A B:World):Cx:=⟨X.n,okR X β ρ M A,B,[],⟨#[],[]⟩,none,[],by simp,X.dfs⟩
theorem Js6{ok:Ok}{w0:World}{bs:List Nat}{X:Cx}{O O':Nat→Prop}(hC:YCx P Y K n ok w0 bs X O){β:Nat→Nat}{ρ:Nat→Value}{S:St}{a:Act}{A B:World}(h:Rel X β ρ S a A)
    (hO':∀b,O' b→O b∨A.heap.size≤b) (hOB:∀b,O' b→b<B.heap.size) (hsz:A.heap.size≤B.heap.size) (hsame:∀b,b<A.heap.size→¬ O b→B.heap[b]?=A.heap[b]?) :
    YCx P Y K n ok w0 bs (reY X β ρ S.mem A B) O'∧Rel (reY X β ρ S.mem A B) β ρ ⟨S.env,[]⟩ a B:=by
  have hno:∀b o,okR X β ρ S.mem A b o→¬ O b:=fun b o hbo hOb=>by
    obtain⟨q1,q2⟩:=hC.hO b hOb
    rcases hbo.1 with q | q
    · exact q2 o q
    · omega
  have hev:Evo (okR X β ρ S.mem A) A B:=Evo.of_blocks hsz fun b o hbo=>hsame b hbo.2.1 (hno b o hbo)
  have hk:∀b o,okR X β ρ S.mem A b o→Je (okR X β ρ S.mem A) B.heap.size (fun _=>0) [] (Qj β ρ []) B b o:=fun b o hbo=>⟨.inl hbo,QB hbo.2.1 hsz,by simp,by simp[Qj]⟩
  refine⟨⟨hC.hX,rfl,rfl,hC.hd,rfl,⟨hC.hK.1,?_⟩,fun b hb=>⟨hOB b hb,fun o hbo=>?_⟩,fun b o hbo=>?_,QW hC.hW (QW h.bel.size hsz)⟩,?_⟩
  · exact((Oe h hC.hK.2).keep hsz fun b o hbo=>hsame b hbo.2.1 (hno b o hbo)).weak fun b o hbo=>⟨hbo,by simp[reY],QB hbo.2.1 hsz⟩
  · rcases hO' b hb with q | q
    · exact hno b o hbo q
    · have:=hbo.2.1; omega
  · have hbo':okR X β ρ S.mem A b o:=hbo
    rcases hbo'.1 with q | q
    · exact hC.hC b o q
    · exact .inr (.inl (QW hC.hW q))
  · exact { sz:=h.sz,df:=h.df,fr:=by simp[reY],pn:=by simp[reY],tm:=by simp,bel:=Uz.refl _ _ _,obj:=by simp,dHH:=by simp,dHO:=by simp,
            dat:=Jh.2 fun x hx=>by
              obtain⟨e,he,rfl⟩:=QZ.1 hx
              exact(enD β ρ a e).weak ((enD β ρ a e).evo (Jh.1 h.dat _ (QZ.2 ⟨e,he,rfl⟩)) hev) hk,
            own:=by simp[Qj],dOO:=by simp[Qj] }
section
variable (hT:Q0 P Y.T) {ok:Ok} {w0:World} {bs:List Nat} {l m:Nat} {a0:Act} {J:Nat→(Nat→Prop)→World→Prop}
 (hst:∀k O A B,J k O A→Below A.heap.size A B→J k O B) (hlt:∀k O A,J k O A→∀b,O b→b<A.heap.size∧(∀o,¬ ok b o)∧b∉bs)
 (hy:∀k O A e v,J k O A→es[k]?=some e→isV (rt u) (okC ok w0 A O bs) A e v→∀m,YieldAt Fence.wide m P l #[v] A fun r B=>r=.returned (.bool true) ∧
     ∃O',J (k+1) O' B∧(∀b,O' b→O b∨A.heap.size≤b)∧A.heap.size≤B.heap.size∧∀b,b<A.heap.size→¬ O b→B.heap[b]?=A.heap[b]?)
include hT hst hlt hy
def YOk(P:Program)(Y:TX)(K:List Con)(n:Nat)(ok:Ok)(w0:World)(bs:List Nat)(J:Nat→(Nat→Prop)→World→Prop)(a0:Act)(S:XS)(β:Nat→Nat)(ρ:Nat→Value){R:Type}{u:Ty}(k:Ex→XS→List u.De→Option R)(r:R)(Q:Exit→Act→World→Prop):Prop :=
 ∀(X:Cx) (O:Nat→Prop) (e:Ex) (β':Nat→Nat) (ρ':Nat→Value) (S':XS) (a':Act) (w':World) (acc':List u.De),k e S' acc'=some r→YCx P Y K n ok w0 bs X O→J acc'.length O X.w→Vh S S' β β' ρ ρ'→Rel X β' ρ' S'.flat a' w'→a'.tmps[0]?=a0.tmps[0]?→Q e.exit a' w'
theorem Qbi{R:Type}{r:R}{ops:List Oper}{yv:Value}(hyv:yv=.func (.yield l) #[] #[]):∀(hn:HnY) {os:List Oper} {ys:List Nat} {S:XS} {acc:List u.De} {k:XS→List u.De→Option R} {X:Cx} {O:Nat→Prop} {β:Nat→Nat} {ρ:Nat→Value} {a:Act} {w:World} {Q:Exit→Act→World→Prop},
  ¬ LetsOut Q→(∀d∈Wh os,d∉[0])→Cp Y K n u ops hn os ys S acc k=some r→(∀S' acc',k S' acc'=some r→acc' <+: es)→YCx P Y K n ok w0 bs X O→J acc.length O X.w→Rel X β ρ S.flat a w→(∀t∈ys,a.tmps[t]?=some yv)→a.tmps[0]?=a0.tmps[0]? →
  YOk P Y K n ok w0 bs J a0 S β ρ (fun _=>k) r (fun _=>Q .normal)→wpListIn Fence.wide m P ⟨ops⟩ Q os a w
 | .done,os,ys,S,acc,k,X,O,β,ρ,a,w,Q,hQ,hz,h,hk,hC,hJ,hR,hys,h0,H=>by
  unfold Cp at h
  split at h
  ·exact H X O .n β ρ S a w acc h hC hJ (Vh.refl _ _ _) hR h0
  ·cases h
 | .h m1 hn rr,os,ys,S,acc,k,X,O,β,ρ,a,w,Q,hQ,hz,h,hk,hC,hJ,hR,hys,h0,H=>by
  unfold Cp at h
  obtain⟨hb,h⟩:=bvT h
  simp only[QQ]at hb
  have hsplit:os=os.take m1++os.drop m1:=(List.take_append_drop m1 os).symm
  have hd1:∀d∈Wh (os.take m1),d∈Wh os:=fun d hd=>by
   rw[hsplit,Qc0]; grind
  have hd2:∀d∈Wh (os.drop m1),d∈Wh os:=fun d hd=>by
   rw[hsplit,Qc0]; grind
  have hrun:=Vq hT hC.hK hC.hX hC.hr (Q:=QL (Wh (os.take m1)) a (fun a' w'=>wpListIn Fence.wide m P ⟨ops⟩ Q (os.drop m1) a' w') Q) hn (l:=os.take m1) (rest:=[]) hR h fun β' ρ' S' a' w' h1 h2 h3=>fun hsame=>by
   refine Qbi hyv rr hQ (fun d hd=>hz d (hd2 d hd)) h1 hk hC hJ h3 (fun t ht=>?_) ?_ fun X2 O2 e β2 ρ2 S2 a2 w2 acc2 q1 q2 q3 q4 q5 q6=>H X2 O2 e β2 ρ2 S2 a2 w2 acc2 q1 q2 q3 (h2.trans q4) q5 q6
   ·rw[hsame t fun hm=>Qte hb.2 hm ht]; exact hys t ht
   ·rw[hsame 0 fun hm=>hz 0 (hd1 0 hm) (.head _)]; exact h0
  rw[QH]at hrun
  have:=Qnv (ro:=none) (m:=m) (tl:=os.drop m1) hQ (fun a w hz=>hz) (os.take m1) hb.1 (fun d hd=>hd) a w (fun t _=>rfl) hrun
  rw[List.take_append_drop]at this
  exact this
 | .mv rr,os,ys,S,acc,k,X,O,β,ρ,a,w,Q,hQ,hz,h,hk,hC,hJ,hR,hys,h0,H=>by
  unfold Cp at h
  split at h
  ·rename_i o os'
   split at h
   ·rename_i t d hop hdst
    obtain⟨hb,h⟩:=bvT h
    simp only[QQ]at hb
    have hw:=Qtf hR hb.2
    obtain⟨hwd,hwo⟩:=Y2 hb.1.2 hC.hX hC.hr
    have hyt:=hys t (Q4m hb.1.1)
    unfold wpListIn
    rw[if_pos hw]
    refine⟨fun _ _=>trivial,?_⟩
    have hsem:Oper.semAt Fence.wide.round a.eval o=execOp a.eval o:=Oper.semAt_none _ _
    have hrun:(execOp a.eval o).run P w=.ok (.value yv) w:=by
     unfold execOp
     rw[hop]
     have:a.eval (.tmp t)=yv:=by
      show a.tmps.getD t undef=yv
      simp_all
     simp[this]
    rw[hsem,hrun]
    show wpListIn Fence.wide m P ⟨ops⟩ Q os' (a.put o.dst yv) w
    rw[hdst]
    have hR2:Rel X β ρ (XS.flat { S with env:=Jx S.env d }) (a.put (some d) yv) w:=by
     have:=hR.del hwd yv
     grind [St.del,XS.flat,Jx,We]
    have hdz:d∉[0]:=hz d (by simp[Wh,hdst])
    have hlt2:d<a.tmps.size:=by rw[hR.sz]; exact Qcg hwd
    refine Qbi hyv rr hQ (fun d' hd'=>hz d' (by grind [Wh])) h hk hC hJ hR2 (fun t' ht'=>?_) ((Vs (t:=0) (d:=d) (fun e=>hdz (by rw[←e]; exact .head _)) _).trans h0) fun X2 O2 e β2 ρ2 S2 a2 w2 acc2 q1 q2 q3 q4 q5 q6=>H X2 O2 e β2 ρ2 S2 a2 w2 acc2 q1 q2 q3 ⟨q4.fix,q4.fixM,q4.prot,q4.ag⟩ q5 q6
    by_cases e:t'=d
    ·subst e; simp[Act.put,hlt2]
    ·rcases QJ.1 ht' with e2 | ht'
     ·exact absurd e2 e
     ·rw[Vs e]; exact hys t' ht'
   ·cases h
  ·cases h
 | .yl rr,os,ys,S,acc,k,X,O,β,ρ,a,w,Q,hQ,hz,h,hk,hC,hJ,hR,hys,h0,H=>by
  unfold Cp at h
  split at h
  ·rename_i o os'
   split at h
   ·rename_i t x ts d hop hdst
    split at h
    ·rename_i v hv
     split at h
     ·rename_i y hyd
      obtain⟨hb,h⟩:=bvT h
      simp only[QQ,JF]at hb
      obtain⟨⟨⟨⟨⟨b1,b2⟩,b3⟩,b4⟩,b5⟩,b6⟩:=hb
      have hw:=Qtf hR b3
      obtain⟨hwd,hwo⟩:=Y2 b2 hC.hX hC.hr
      have hyt:=hys t (Q4m b1)
      have hyt':a.eval (.tmp t)=yv:=by
       show a.tmps.getD t undef=yv
       simp[QM,hyt]
      have hfm:S.fixM=[]:=by
       cases hE:S.fixM with
       | nil=>rfl
       | cons q l=>rw[hE]at b6; cases b6
      obtain⟨cs,hv1,hv2⟩:=hR.ev (Qf a) hv
      have hval:isV (rt u) (okR X β ρ S.flat.mem w) w y (a.eval x):=by
       refine⟨cs,K8 (M:=[]) (β:=β) (ρ:=ρ) (by simp[Qh]) hyd hv2,?_⟩
       rw[hv1]; simp only[AV.val,RT.val,Dj,bEq b5]; cases v.isAgg<;>rfl
      have hpre:acc++[y] <+: es:=Dr rr h hk
      have hek:es[acc.length]?=some y:=by
       obtain⟨tl,rfl⟩:=hpre
       simp
      have hJw:=hst _ _ _ _ hJ (Qxe hR hC.hl)
      have hvalC:isV (rt u) (okC ok w0 w O bs) w y (a.eval x):=hval.weak fun b o' hbo=>by
       refine⟨?_,hbo.2.1,fun hOb=>?_⟩
       ·rcases hbo.1 with q | q
        ·exact hC.hC b o' q
        ·exact .inr (.inl (QW hC.hW q))
       ·obtain⟨q1,q2⟩:=hC.hO b hOb
        rcases hbo.1 with q | q
        ·exact q2 o' q
        ·omega
      obtain⟨fn,tmps,assign,body,hyr,hround⟩:=hy _ _ _ _ _ hJw hek hvalC (m - 1)
      unfold wpListIn
      rw[if_pos hw]
      refine⟨fun _ _=>trivial,?_⟩
      have hsem:Oper.semAt Fence.wide.round a.eval o=execOp a.eval o:=Oper.semAt_none _ _
      have hrun:(execOp a.eval o).run P w=.ok (.round l fn tmps assign body) w:=by
       grind [execOp,resolve,Deferred.ofValue,invoke]
      rw[hsem,hrun]
      refine⟨fun hd=>(by have h0:Fence.wide.depth.isSome=false:=rfl; rw[h0]at hd; cases hd),hround.mono ?_⟩
      rintro r2 B ⟨rfl,O',hJ',hO',hsz,hsame⟩
      obtain⟨hC2,hR2⟩:=Js6 hC hR hO' (fun b hb=>(hlt _ _ _ hJ' b hb).1) hsz hsame
      show wpListIn Fence.wide m P ⟨ops⟩ Q os' (a.put o.dst (.bool true)) B
      rw[hdst]
      obtain⟨hwd2,_⟩:=Y2 b2 hC2.hX hC2.hr
      have hR3:Rel (reY X β ρ S.flat.mem w B) β ρ (XS.flat (XS.put { S with mem:=[] } d [] (.d .bool true))) (a.put (some d) (.bool true)) B:=by
       have hflat:XS.flat { S with mem:=[] }=⟨S.flat.env,[]⟩:=by simp[XS.flat,hfm]
       rw[Kx (S:={ S with mem:=[] }) hwo,hflat]
       exact hR2.put0 hwd2 (x:=.d .bool true) (c:=[.bool true]) rfl
      have hdz:d∉[0]:=hz d (by grind [Wh])
      refine Qbi hyv rr hQ (fun d' hd'=>hz d' (by grind [Wh])) h hk hC2 (by rw[List.length_append]; exact hJ') hR3 (fun t' ht'=>?_) ((Vs (t:=0) (d:=d) (fun e=>hdz (by rw[←e]; exact .head _)) _).trans h0) fun X2 O2 e β2 ρ2 S2 a2 w2 acc2 q1 q2 q3 q4 q5 q6=>H X2 O2 e β2 ρ2 S2 a2 w2 acc2 q1 q2 q3 ⟨q4.fix,q4.fixM,q4.prot,q4.ag⟩ q5 q6
      by_cases e:t'=d
      ·subst e
       rw[Qlu ht']at b4; cases b4
      ·rw[Vs e]; exact hys t' ht'
     ·cases h
    ·cases h
   ·cases h
  ·cases h
 | .so t x y,os,ys,S,acc,k,X,O,β,ρ,a,w,Q,hQ,hz,h,hk,hC,hJ,hR,hys,h0,H=>by
  unfold Cp at h
  split at h
  ·rename_i t' v he
   obtain⟨hoff,h1⟩:=bvT h
   have ht':=(Zt he).2
   simp only at ht'
   subst ht'
   split at h1
   ·rename_i hv
    subst hv
    exact Qbi hyv x hQ hz h1 hk hC hJ (Qs1 hR he) hys h0 fun X2 O2 e β2 ρ2 S2 a2 w2 acc2 q1 q2 q3 q4 q5 q6=>H X2 O2 e β2 ρ2 S2 a2 w2 acc2 q1 q2 q3 ⟨q4.fix,q4.fixM,q4.prot,q4.ag⟩ q5 q6
   ·rename_i hv
    have hv:v=false:=by simpa using hv
    subst hv
    exact Qbi hyv y hQ hz h1 hk hC hJ (Qs1 hR he) hys h0 fun X2 O2 e β2 ρ2 S2 a2 w2 acc2 q1 q2 q3 q4 q5 q6=>H X2 O2 e β2 ρ2 S2 a2 w2 acc2 q1 q2 q3 ⟨q4.fix,q4.fixM,q4.prot,q4.ag⟩ q5 q6
  ·cases h
theorem Qc1(ha0:a0.tmps[0]?=some (.func (.yield l) #[] #[])):∀{R:Type} {r:R} (an:AnY) {c:Code} {S:XS} {acc:List u.De} {k:Ex→XS→List u.De→Option R} {X:Cx} {O:Nat→Prop} {β:Nat→Nat} {ρ:Nat→Value} {a:Act} {w:World} {Q:Exit→Act→World→Prop},
  ¬ LetsOut Q→Bp Y K n N u an c S acc k=some r→(∀e S' acc',k e S' acc'=some r→acc' <+: es)→YCx P Y K n ok w0 bs X O→J acc.length O X.w→Rel X β ρ S.flat a w→a.tmps[0]?=a0.tmps[0]?→YOk P Y K n ok w0 bs J a0 S β ρ k r Q→c.wp P Q a w
 | R,r,.nil,c,S,acc,k,X,O,β,ρ,a,w,Q,hQ,h,hk,hC,hJ,hR,h0,H=>by
  cases c<;>simp only[Bp]at h<;>first | (cases h; done) | skip
  ·exact wp_skip (H X O .n β ρ S a w acc h hC hJ (Vh.refl _ _ _) hR h0)
  ·rename_i id; exact wp_exit (H X O (.x id) β ρ S a w acc h hC hJ (Vh.refl _ _ _) hR h0)
  ·exact wp_ret (H X O .r β ρ S a w acc h hC hJ (Vh.refl _ _ _) hR h0)
 | R,r,.reg hn,c,S,acc,k,X,O,β,ρ,a,w,Q,hQ,h,hk,hC,hJ,hR,h0,H=>by
  cases c with
  | region id ops draw =>
   obtain⟨ops⟩:=ops
   cases draw with
   | true=>simp[Bp]at h
   | false =>
    simp only[Bp]at h
    obtain⟨hb,h⟩:=bvT h
    simp only[QQ]at hb
    refine(wpIn_wide (n:=1)).1 (wpIn_region_list ?_)
    have:=Vq hT hC.hK hC.hX hC.hr (Q:=QS (Wh ops) a Q) hn (l:=ops) (rest:=[]) hR h fun β' ρ' S' a' w' h1 h2 h3=>fun hsame=>H X O .n β' ρ' S' a' w' acc h1 hC hJ h2 h3 ((hsame 0 fun hm=>Qte hb.2 hm (.head _)).trans h0)
    rw[QH]at this
    exact Qxb (ro:=none) hQ ops hb.1 (fun d hd=>hd) a w (fun t _=>rfl) this
  | _=>simp[Bp]at h
 | R,r,.yr hn,c,S,acc,k,X,O,β,ρ,a,w,Q,hQ,h,hk,hC,hJ,hR,h0,H=>by
  cases c with
  | region id ops draw =>
   obtain⟨ops⟩:=ops
   cases draw with
   | true=>simp[Bp]at h
   | false =>
    simp only[Bp]at h
    obtain⟨hb,h⟩:=bvT h
    refine(wpIn_wide (n:=1)).1 (wpIn_region_list ?_)
    exact Qbi (m:=1) hT hst hlt hy rfl hn hQ (fun d hd hm=>Qte hb hd hm) h (fun S' acc' h'=>hk _ _ _ h') hC hJ hR (fun t ht=>by
     grind) h0 fun X2 O2 e β2 ρ2 S2 a2 w2 acc2 q1 q2 q3 q4 q5 q6=>H X2 O2 .n β2 ρ2 S2 a2 w2 acc2 q1 q2 q3 q4 q5 q6
  | _=>simp[Bp]at h
 | R,r,.two x y,c,S,acc,k,X,O,β,ρ,a,w,Q,hQ,h,hk,hC,hJ,hR,h0,H=>by
  cases c<;>simp only[Bp]at h<;>first | (cases h; done) | skip
  ·rename_i c1 c2
   refine wp_seq (Qc1 ha0 x (Q:=Exit.then (c2.wp P Q) Q) hQ h (fun e S' acc' h'=>?_) hC hJ hR h0 fun X2 O2 e β2 ρ2 S2 a2 w2 acc2 q1 q2 q3 q4 q5 q6=>?_)
   ·grind [Iz]
   ·cases e with
    | n=>exact Qc1 ha0 y hQ q1 hk q2 q3 q5 q6 fun X3 O3 e β3 ρ3 S3 a3 w3 acc3 p1 p2 p3 p4 p5 p6=>H X3 O3 e β3 ρ3 S3 a3 w3 acc3 p1 p2 p3 (q4.trans p4) p5 p6
    | x i=>exact H X2 O2 (.x i) β2 ρ2 S2 a2 w2 acc2 q1 q2 q3 q4 q5 q6
    | r=>exact H X2 O2 .r β2 ρ2 S2 a2 w2 acc2 q1 q2 q3 q4 q5 q6
  ·rename_i co c1 c2
   split at h
   ·rename_i v hv
    obtain⟨cs,h1,h2⟩:=hR.ev (Qf a) hv
    have h2':cs=_:=h2
    subst h2'
    have h1':a.eval co=.bool v:=h1
    refine wp_cond_split h1' (fun hv=>?_) (fun hv=>?_)
    ·rw[if_pos hv]at h
     exact Qc1 ha0 x hQ h hk hC hJ hR h0 H
    ·rw[if_neg (by rw[hv]; simp)]at h
     exact Qc1 ha0 y hQ h hk hC hJ hR h0 H
   ·cases h
 | R,r,.un x,c,S,acc,k,X,O,β,ρ,a,w,Q,hQ,h,hk,hC,hJ,hR,h0,H=>by
  cases c<;>simp only[Bp]at h<;>first | (cases h; done) | skip
  rename_i id c1
  refine wp_block (Qc1 ha0 x (Q:=Exit.inBlock id Q) hQ h (fun e S' acc' h'=>?_) hC hJ hR h0 fun X2 O2 e β2 ρ2 S2 a2 w2 acc2 q1 q2 q3 q4 q5 q6=>?_)
  ·grind
  ·cases e with
   | n=>exact H X2 O2 .n β2 ρ2 S2 a2 w2 acc2 q1 q2 q3 q4 q5 q6
   | x i =>
    simp only at q1
    show if i=id then Q .normal a2 w2 else Q (.exit i) a2 w2
    cases hb:Nat.beq i id with
    | true =>
     rw[hb]at q1
     rw[if_pos (Nat.eq_of_beq_eq_true hb)]
     exact H X2 O2 .n β2 ρ2 S2 a2 w2 acc2 q1 q2 q3 q4 q5 q6
    | false =>
     rw[hb]at q1
     rw[if_neg (fun e=>by rw[e,Nat.beq_refl]at hb; cases hb)]
     exact H X2 O2 (.x i) β2 ρ2 S2 a2 w2 acc2 q1 q2 q3 q4 q5 q6
   | r=>exact H X2 O2 .r β2 ρ2 S2 a2 w2 acc2 q1 q2 q3 q4 q5 q6
 | R,r,.lp ks ms Γ exs x,c,S,acc,k,X,O,β,ρ,a,w,Q,hQ,h,hk,hC,hJ,hR,h0,H=>by
  cases c<;>simp only[Bp]at h<;>first | (cases h; done) | skip
  rename_i c1
  split at h
  ·rename_i s0 hs0
   obtain⟨z,hz,ho⟩:=Yq h
   obtain⟨e0,S0,hk0⟩:=Qtg ho
   have hzp:z.2 <+: es:=hk _ _ _ hk0
   obtain⟨f,hz,hf⟩:∃f,Ql f N (s0,acc)=some z∧f=_:=⟨_,hz,rfl⟩
   have main:∀(m:Nat) (q:Γ.De×List u.De),Ql f m q=some z→q.2 <+: es:=by
    intro m
    induction m with
    | zero=>grind [Ql]
    | succ m ih =>
     intro q hq
     simp only[Ql]at hq
     obtain⟨x,hx,hq⟩:=Yq hq
     rw[hf]at hx
     grind [Iz,fin]
   obtain⟨β1,ρ1,h1,h2⟩:=Ma (S0:=S.ent ks ms) (hR.ent ks ms) ⟨rfl,rfl,rfl⟩ hs0
   refine Qch (fun m a w=>∃(s:Γ.De) (ac:List u.De) (X1:Cx) (O1:Nat→Prop) (β':Nat→Nat) (ρ':Nat→Value),YCx P Y K n ok w0 bs X1 O1∧J ac.length O1 X1.w∧a.tmps[0]?=a0.tmps[0]?∧agP S.prot β β' ρ ρ'∧Rel X1 β' ρ' ((S.ent ks ms).re (enc Γ s)).flat a w∧Ql f m (s,ac)=some z) N ⟨s0,acc,X,O,β1,ρ1,hC,hJ,h0,h1,h2,hz⟩ ?_
   rintro m1 a1 w1 ⟨s,ac,X1,O1,β',ρ',hC1,hJ1,h01,h3,h4,h5⟩
   cases m1 with
   | zero=>simp[Ql]at h5
   | succ m1 =>
    simp only[Ql]at h5
    obtain⟨q,hq,h5⟩:=Yq h5
    rw[hf]at hq
    have fin:∀acc',(∃s',some (Sum.inl (s',acc'))=some q)∨(∃y,some (Sum.inr (y,acc'))=some q)→acc' <+: es:=by
     grind
    refine Qc1 ha0 x (Q:=Exit.then (fun a' w'=>∃k,k<m1+1∧∃(s:Γ.De) (ac:List u.De) (X1:Cx) (O1:Nat→Prop) (β':Nat→Nat) (ρ':Nat→Value),YCx P Y K n ok w0 bs X1 O1∧J ac.length O1 X1.w∧a'.tmps[0]?=a0.tmps[0]?∧agP S.prot β β' ρ ρ'∧Rel X1 β' ρ' ((S.ent ks ms).re (enc Γ s)).flat a' w'∧Ql f k (s,ac)=some z) Q) hQ hq (fun e S' acc' h'=>?_) hC1 hJ1 h4 h01 fun X2 O2 e β2 ρ2 S' a' w' acc2 h6 q2 q3 h7 h8 q6=>?_
    ·grind
    ·cases e with
     | n =>
      simp only at h6
      split at h6
      ·rename_i s' hd
       injection h6 with h6; subst h6
       obtain⟨β3,ρ3,h9,h10⟩:=Ma (S0:=S.ent ks ms) h8 ⟨h7.fix,h7.fixM,h7.prot⟩ hd
       exact⟨m1,Nat.lt_succ_self m1,s',acc2,X2,O2,β3,ρ3,q2,q3,q6,(h3.trans h7.ag).trans h9,h10,h5⟩
      ·cases h6
     | x i =>
      simp only at h6
      split at h6
      ·rename_i s' hd
       injection h6 with h6; subst h6
       injection h5 with h5; subst h5
       obtain⟨β3,ρ3,S1,h9,h10,h11⟩:=Qj0 ks ms hd ho ⟨h7.fix,h7.fixM,h7.prot⟩ h8
       exact H X2 O2 (.x i) β3 ρ3 _ a' w' acc2 h9 q2 q3 ⟨rfl,rfl,rfl,(h3.trans h7.ag).trans h10⟩ h11 q6
      ·cases h6
     | r =>
      simp only at h6
      split at h6
      ·rename_i s' hd
       injection h6 with h6; subst h6
       injection h5 with h5; subst h5
       obtain⟨β3,ρ3,S1,h9,h10,h11⟩:=Qj0 ks ms hd ho ⟨h7.fix,h7.fixM,h7.prot⟩ h8
       exact H X2 O2 .r β3 ρ3 _ a' w' acc2 h9 q2 q3 ⟨rfl,rfl,rfl,(h3.trans h7.ag).trans h10⟩ h11 q6
      ·cases h6
  ·cases h
end
end
def Jfo:List DV→Nat→List En
 | [],_=>[]
 | v::l,i=>⟨i,[],.a v.1 v.2⟩::Jfo l (i+1)
def Jp2(Y:TX)(K:List Con)(N:Nat)(u:Ty)(fn:Func)(an:AnY)(cs:List Ty)(x:Tup cs):Option (List u.De):=match fn.body with
 | some c=>bif Nat.ble (cs.length+1) fn.ntmps&&Nat.blt (cs.length+1) 100000 then Bp Y K fn.ntmps N u an c ⟨Jfo (toL cs x) 1,Qi1 Y.gl,[],[],[]⟩ [] fun e S acc=>match e with
  | .x _=>none
  | .n=>some acc
  | .r=>some acc else none
 | none=>none
theorem Qq6:∀(ts:List Ty) (x:Tup ts),(toL ts x).length=ts.length
 | [],_=>rfl
 | [t],x=>rfl
 | t::u::ts,x=>by simp[toL,Qq6 (u::ts)]
theorem Q4n{ok:Ok}{w:World}:∀{l:List DV} {bs:List Nat},Jfl ok w l bs→bs.length=l.length
 | [],[],_=>rfl
 | v::l,b::bs,h=>by simp[Q4n h.2]
 | [],_::_,h=>h.elim
 | _::_,[],h=>h.elim
theorem Qth{ok:Ok}{w:World}:∀{l:List DV} {bs:List Nat},Jfl ok w l bs→∀(i:Nat) v,l[i]?=some v→∃b,bs[i]?=some b∧∃tid cs,w.heap[b]?=some (.cells cs.toArray tid (0,0))∧(rt v.1).rep ok w v.2 cs
 | [],[],_,i,v,hv=>by simp at hv
 | x::l,b::bs,h,0,v,hv=>by
  simp at hv; subst hv
  exact⟨b,rfl,h.1⟩
 | x::l,b::bs,h,i+1,v,hv=>Qth h.2 i v (by simpa using hv)
 | [],_::_,h,_,_,_=>h.elim
 | _::_,[],h,_,_,_=>h.elim
theorem Q4o:∀{l:List DV} {i:Nat} {e:En},e∈Jfo l i→∃j v,l[j]?=some v∧e=⟨i+j,[],.a v.1 v.2⟩
 | v::l,i,e,h=>by
  rcases QJ.1 h with rfl | h
  ·exact⟨0,v,rfl,rfl⟩
  ·obtain⟨j,v',h1,h2⟩:=Q4o h
   exact⟨j+1,v',h1,by rw[h2]; congr 1; omega⟩
theorem Joi{P:Program}{Y:TX}{K:List Con}{N:Nat}(hT:Q0 P Y.T)(hmix:P.follows .mixedOrders=true)(hK:Q36 P Y.gl K){it:It}{fn:Func}(hf:P.funcs[it.f]?=some fn)(hres:fn.results=#[]){an:AnY}(hrun:∀x,it.fn x=Jp2 Y K N it.u fn an it.cs x):Jfm P Y.gl it:=by
 intro ok w bs x es hok hG hes hbox hnd hbno l J W O0 hbel hst hlt hy hJ0 m
 rw[hrun]at hes
 unfold Jp2 at hes
 split at hes
 case h_2=>cases hes
 rename_i c hb
 obtain⟨hc,hes⟩:=bvT hes
 simp only[QQ]at hc
 have hn:=QK hc.1
 have hsm:=QK hc.2
 have hbl:=Q4n hbox
 rw[Qq6]at hbl
 refine callsIn_wide.2 (calls_of_wp hf hb ?_)
 obtain⟨a,ha⟩:∃a:Act,a={ tmps:=(#[Value.func (.yield l) #[] #[]]++(bs.map Q4l).toArray)++Array.replicate (fn.ntmps - (#[Value.func (.yield l) #[] #[]]++(bs.map Q4l).toArray).size) undef,defers:=[] }:=⟨_,rfl⟩
 rw[←ha]
 have hsize:(#[Value.func (.yield l) #[] #[]]++(bs.map Q4l).toArray).size=it.cs.length+1:=by
  grind
 have ha0:a.tmps[0]?=some (.func (.yield l) #[] #[]):=by
  rw[ha]
  grind
 have hag:∀(j:Nat) b,bs[j]?=some b→a.tmps[1+j]?=some (Q4l b):=fun j b hj=>by
  rw[ha]
  have hjl:=(List.getElem?_eq_some_iff.1 hj).1
  rw[XK (by rw[hsize]; omega),Array.getElem?_append_right (by simp)]
  simp[hj]
 obtain⟨X,hX⟩:∃X:Cx,X=⟨fn.ntmps,fun b o=>ok b o∨b∈bs,W,[],⟨#[],[]⟩,none,[],by simp,[]⟩:=⟨_,rfl⟩
 have hev:Evo ok w W:=(Evo.of_below hbel).mono fun b o hbo=>hok b o hbo
 have hbW:∀b∈bs,b<w.heap.size:=fun b hb=>by
  obtain⟨i,hi⟩:=List.getElem?_of_mem hb
  have hil:=(List.getElem?_eq_some_iff.1 hi).1
  have hvl:i<(toL it.cs x).length:=by rw[Qq6]; omega
  obtain⟨b',h1,tid,cs,h2,_⟩:=Qth hbox i _ (List.getElem?_eq_getElem hvl)
  rw[hi]at h1; grind
 have hGX:Ud Y.gl (okN X) X.w:=by
  rw[hX]
  exact(hG.keep hbel.size fun b o hbo=>hbel.block b (hok b o hbo)).weak fun b o hbo=>⟨.inl hbo,by simp,QB (hok b o hbo) hbel.size⟩
 have hGW:Ud Y.gl (okN X) W:=by
  have h:=hGX
  rw[show X.w=W by rw[hX]]at h
  exact h
 have hokR:∀b o,ok b o∨b∈bs→okR X (fun _=>0) (fun _=>undef) [] W b o:=fun b o hbo=>⟨.inl (by rw[hX]; exact hbo),by
  rcases hbo with h | h
  ·exact QB (hok b o h) hbel.size
  ·exact QB (hbW b h) hbel.size,by simp,by simp[Qj]⟩
 have hR:Rel X (fun _=>0) (fun _=>undef) (XS.flat ⟨Jfo (toL it.cs x) 1,Qi1 Y.gl,[],[],[]⟩) a W:=by
  have hS:Sb (fun _=>0) X [] [] [] (Qj (fun _=>0) (fun _=>undef) []) a W :=
   { sz:=by rw[ha,hX]; grind,df:=by rw[ha,hX],fr:=by rw[hX]; simp,pn:=by rw[hX]; simp,tm:=by simp,bel:=by rw[hX]; exact Uz.refl _ _ _,dat:=trivial,obj:=by simp,own:=by simp[Qj],dHH:=by simp,dHO:=by simp,dOO:=by simp[Qj] }
  have e:XS.flat ⟨Jfo (toL it.cs x) 1,Qi1 Y.gl,[],[],[]⟩=⟨Jfo (toL it.cs x) 1++Qi1 Y.gl,[]⟩:=by simp[XS.flat]
  rw[e]
  refine Rel.ofSb hS rfl fun e he=>?_
  rcases QX.1 he with he | he
  ·obtain⟨j,v,hj,rfl⟩:=Q4o he
   obtain⟨b,hb1,tid,cs,hb2,hb3⟩:=Qth hbox j v hj
   have hjl:=(List.getElem?_eq_some_iff.1 hj).1
   rw[Qq6]at hjl
   have hbm:=List.mem_of_getElem? hb1
   refine⟨fun _=>⟨[Q4l b],?_,Q4l b,rfl,b,0,cs,rfl,(rt v.1).weak ((rt v.1).evo hb3 hev) fun b o hbo=>hokR b o (.inl hbo),fun j2 u2 hu2=>⟨hokR _ _ (.inr hbm),?_⟩⟩,.inl (Qf a)⟩
   ·rw[Om (Nat.ble_eq_true_of_le (by grind))]
    exact hag j b hb1
   ·have hbw:W.heap[b]?=some (.cells cs.toArray tid (0,0)):=(hbel.block b (hbW b hbm)).trans hb2
    simp_all [World.cell?,QV]
  ·exact Q4k hGW (fun b o (hbo:okN X b o)=>⟨.inl hbo.1,(by have h:=hbo.2.2; rw[hX]at h; exact h),by simp,by simp[Qj]⟩) e he
 have hC:YCx P Y K fn.ntmps ok w bs X O0:=by
  refine⟨by rw[hX],by rw[hX],by rw[hX],by rw[hX],by rw[hX],⟨hK,hGX⟩,fun b hb=>?_,fun b o hbo=>?_,by rw[hX]; exact hbel.size⟩
  ·obtain⟨q1,q2,q3⟩:=hlt _ _ _ hJ0 b hb
   rw[hX]
   grind
  grind
 have hJX:J ([]:List it.u.De).length O0 X.w:=by rw[hX]; exact hJ0
 refine Qc1 (a0:=a) hT hst hlt hy ha0 an (Q:=bodyPost P fn _) ?_ hes (fun e S' acc' h'=>?_) hC hJX hR rfl fun X2 O2 e β' ρ' S' a' w' acc' h1 h2 h3 h4 h5 h6=>?_
 ·rintro⟨_,_,h⟩
  obtain⟨⟨v,hv⟩,_⟩:=h
  cases hv
 ·grind
 ·have hfin:acc'=es→bodyPost P fn (fun e B=>(∃v,e=.returned v)∧∃O,J es.length O B) .ret a' w':=fun he=>by
   subst he
   refine⟨h5.df.trans h2.hd,.tuple #[],?_,⟨_,rfl⟩,O2,hst _ _ _ _ h3 (Qxe h5 h2.hl)⟩
   simp[results,hres]
  cases e with
  | x i=>cases h1
  | n=>exact hfin (by injection h1)
  | r=>exact hfin (by injection h1)
end Gx

/- From a statement's arguments to data, and back to the statement. -/
namespace Gx
open Go Go.RowKit Gd Go.WideShapes Go.ChangeShapes
set_option linter.unusedVariables false
set_option linter.unusedSimpArgs false
def Qj2{α:Type}(g:α→Prop):Nat→K7 α→Prop
 | 0,_=>False
 | n+1,x=>g x.x∧Q2t (Qj2 g n) x.ks
theorem Qnw{α:Type}{g:α→Prop}:∀{n m:Nat} {x:K7 α},n≤m→Qj2 g n x→Qj2 g m x
 | 0,_,_,_,h=>h.elim
 | n+1,0,_,hle,_=>absurd hle (by omega)
 | n+1,m+1,x,hle,h=>⟨h.1,h.2.1,fun y hy=>Qnw (by omega) (h.2.2 y hy)⟩
theorem Jjp{α:Type}{g:α→Prop}{x:α}{ks:List (K7 α)}(h:g x)(hk:Q2t (fun y=>∃n,Qj2 g n y) ks):∃n,Qj2 g n (.mk x ks):=by
 have:∃n,∀y∈ks,Qj2 g n y:=by
  have h2:=hk.2
  clear hk
  induction ks with
  | nil=>simp_all
  | cons z l ih =>
   obtain⟨n,hn⟩:=ih fun y hy=>h2 y (.tail _ hy)
   obtain⟨m,hm⟩:=h2 z (.head _)
   refine⟨max n m,fun y hy=>?_⟩
   rcases QJ.1 hy with rfl | hy
   ·exact Qnw (Nat.le_max_right _ _) hm
   grind [Qnw,Nat.le_max_left]
 obtain⟨n,hn⟩:=this
 exact⟨n+1,h,hk.1,hn⟩
def gd:(t:Ty)→t.De→Prop
 | .int k,x=>Qiv k x
 | .bool,_=>True
 | .str,x=>Jh3 x
 | .sl e,x=>Q2t (gd e) x
 | .arr _ e,x=>∀y∈x,gd e y
 | .unit,_=>True
 | .pr f r,x=>gd f x.1∧gd r x.2
 | .st fs,x=>gd fs x
 | .ref,_=>True
 | .rose fs,x=>∃n,Qj2 (gd fs) n x
abbrev Tt(P:Program)(t:TypeId)(ty:Ty):Prop:=Qk6 P (rt ty) t (gd ty)
section
variable {P:Program}
theorem Qnx{t:TypeId}{k:IntKind}(ht:P.underlying t=some (.int k))(hc:P.cellsOf t=1):Tt P t (.int k):=Jec ht hc
theorem Q9a{t:TypeId}(ht:P.underlying t=some .bool)(hc:P.cellsOf t=1):Tt P t .bool:=by
 have:=Q8i ht hc
 exact⟨this.1,this.2.1,fun enc w n cs x h=>let⟨y,h1,_⟩:=this.2.2 enc w n cs x h; ⟨y,h1,trivial⟩⟩
theorem Qxf{t:TypeId}(ht:P.underlying t=some .string)(hc:P.cellsOf t=1):Tt P t .str:=Jed ht hc
inductive Jjq(P:Program)(ff:Array Field):Ty→Nat→Nat→Prop
 | last {ty:Ty} {i off t:Nat} {f:Field} (ho:Tt P t ty) (hi:ff[i]?=some f) (ht:f.type=t) (hoff:f.offset=off):Jjq P ff ty i off
 | pr {ty r:Ty} {i off t:Nat} {f:Field} (ho:Tt P t ty) (hi:ff[i]?=some f) (ht:f.type=t) (hoff:f.offset=off) (hr:Jjq P ff r (i+1) (off+ty.size)):Jjq P ff (.pr ty r) i off
theorem Jfp{ok:Ok}{w:World}{β:Nat→Nat}{ρ:Nat→Value}:Qk5 (Qj β ρ []) [] ok w:=⟨by simp[Qj],.nil,by simp⟩
section
variable {β:Nat→Nat} {ρ:Nat→Value} {ok:Ok} {w:World}
theorem Jvd{t0 t1:Ty}{x0:t0.De}{x1:t1.De}{v0 v1:Value}(h0:isV (rt t0) ok w x0 v0)(h1:isV (rt t1) ok w x1 v1) :
  ∀e∈[(⟨0,[],.d t0 x0⟩:En),⟨1,[],.d t1 x1⟩],∃cs,[v0,v1][e.t]?=some (e.av.val cs)∧cr β ρ ok w false e.av cs:=by
 intro e he
 obtain⟨c0,p0,q0⟩:=Qhj (β:=β) (ρ:=ρ) h0
 obtain⟨c1,p1,q1⟩:=Qhj (β:=β) (ρ:=ρ) h1
 grind
theorem Jfq{c:Con}{x:c.Γ.De}{y:Qa6 c.Δ}{f:FuncId}{args:Array Value}(h:Calls P f args w (Qy3 [] w (Q3z c β ρ ok [] w x y)))(hy:Qa7 (Qh1 c.Δ y).env=.d .bool true):Calls P f args w (Ret w (R1 Qv4 ok w true)):=by
 refine h.mono ?_
 rintro e w' ⟨v,rfl,⟨β',ρ',_,⟨cs,h1,h2⟩,_⟩,hb⟩
 refine⟨v,rfl,?_,hb⟩
 rw[hy]at h1 h2
 have h2':cs=[.bool true]:=h2
 subst h2'
 exact Qrk.2 h1
end
end
end Gx

/- Annotations that follow from the code, but for some pieces. -/
namespace Gx
open Go Go.RowKit Gd
set_option linter.unusedVariables false
inductive Pc where
 | lp (ks ms:List Nat) (Γ:Shp) (exs:Exs)
 | jn (ks ms:List Nat) (exs:Exs)
 | gh (g:Hn)
 | rg (h:Hn)
 | an (a:An)
 | dd
def Qc2:List (Nat×Pc)→Nat→List Pc
 | [],_=>[]
 | (k,p)::l,i=>bif Nat.beq k i then p::Qc2 l i else Qc2 l i
def Tu:List Pc→An→An
 | [],a=>a
 | .lp ks ms Γ exs::r,a=>.lp ks ms Γ exs (Tu r a)
 | .jn ks ms exs::r,a=>.jn ks ms exs (Tu r a)
 | .gh g::r,a=>.gh g (Tu r a)
 | .rg h::_,_=>.reg h
 | .an a::_,_=>a
 | .dd::_,_=>.gh (.tl .done) .nil
def Jve:Nat→List Nat→Nat→Nat
 | _,[],i=>i
 | f,k::l,i=>bif Nat.beq f k then i else Jve f l (i+1)
def Jjr(K:List Nat):List Oper→Hn
 | []=>.done
 | o::l=>match o.op with
  | .call ⟨.value (.func f),_,_⟩=>.call (Jve f K 0) (Jjr K l)
  | _=>.n 1 (Jjr K l)
def Qfu(K:List Nat)(ps:List (Nat×Pc)):Code→Nat→An×Nat
 | .region _ ⟨ops⟩ _,i=>(Tu (Qc2 ps i) (.reg (Jjr K ops)),i+1)
 | .seq a b,i=>match Qfu K ps a (i+1)with
  | (x,j)=>match Qfu K ps b j with
   | (y,k)=>(Tu (Qc2 ps i) (.two x y),k)
 | .cond _ a b,i=>match Qfu K ps a (i+1)with
  | (x,j)=>match Qfu K ps b j with
   | (y,k)=>(Tu (Qc2 ps i) (.two x y),k)
 | .block _ a,i=>match Qfu K ps a (i+1)with
  | (x,j)=>(Tu (Qc2 ps i) (.un x),j)
 | .scope a,i=>match Qfu K ps a (i+1)with
  | (x,j)=>(Tu (Qc2 ps i) (.un x),j)
 | .loop a,i=>match Qfu K ps a (i+1)with
  | (x,j)=>(Tu (Qc2 ps i) x,j)
 | _,i=>(Tu (Qc2 ps i) .nil,i+1)
def Js7(K:List Nat)(ps:List (Nat×Pc))(c:Option Code):An:=match c with
 | some c=>(Qfu K ps c 0).1
 | none=>.nil
def sL:List Sk→Sk
 | []=>.nil
 | x::l=>.cons x (sL l)
def sDe:List Ty→Nat→List (Nat×Sk)
 | [],_=>[]
 | t::l,i=>(i,.d t)::sDe l (i+1)
def sD(l:List Ty):Shp:=⟨sDe l 0,[]⟩
end Gx

/- Functions of the library, by the kit's contracts; the package-level variables that a statement lists. -/
namespace Gx
open Go Go.RowKit Go.Lib Go.Sort Gd
set_option linter.unusedVariables false
set_option linter.unusedSimpArgs false
set_option linter.constructorNameAsVariable false
section
variable {P:Program} {gl:List (Nat×Σ t:Ty,t.De)}
end
end Gx

/- slices.Clone. -/
namespace Gx
open Go Go.RowKit Gd
set_option linter.unusedVariables false
set_option linter.unusedSimpArgs false
section
variable {P:Program} {Y:TX}
theorem Joj{t el:TypeId}{A:Option Addr}{m c:Nat}{w:World}(hu:(underlying t).run P w=.ok (.slice el) w):(Op.equal t (.slice A m c) (.slice none 0 0)).run P w=.ok A.isNone w:=by
 show(Op.equalIn (9999+1) t _ _).run P w=_
 rw[Op.equalIn]
 cases A<;>simp[Sem.run_bind,hu]
abbrev Qbj(u:Ty):Shp:=⟨[(0,.d (.sl u))],[]⟩
abbrev Bq(e:TypeId)(u:Ty):Shp:=⟨[(0,.s 0)],[(0,.row e u)]⟩
def Tv(f:FuncId)(u:Ty)(Δ:Shp)(fc:List u.De→Option Δ.De):Con:=⟨f,Qbj u,[Δ],fc,[]⟩
def Ju{α:Type}(bytes:Nat)(xs:List α):Option (List α):=(app bytes [] xs).bind fun zs=>some zs
def Jfr(Y:TX)(fn:Func)(c:Con):Ex→XS→Option (Qa6 c.Δ):=fun e S=>match e with
 | .r=>fin Y fn c.Δ S
 | _=>none
def slT(T:Tab)(t:TypeId):Bool:=match Qk T t with
 | some te=>Eb (Yy te.d)
 | none=>false
def S2c(S1:XS)(v:AV)(b:Bool):XS:=(S1.put 3 [] v).put 4 [] (.d .bool b)
theorem Qxg(hT:Q0 P Y.T)(hmix:P.follows .mixedOrders=true){fn:Func}{c:Con}(hf:P.funcs[c.f]?=some fn){v0:c.Γ.De→AV}{fA:c.Γ.De→Option (Qa6 c.Δ)}(hn:fn.ntmps=8){R0 A C:Code}{i1:Nat}{o1 o2:Oper}(hb:fn.body=some (.seq R0 (.seq (.seq (.region i1 ⟨[o1,o2]⟩ false) (.cond (.tmp 4) A .skip)) C)))
  (h1d:o1.dst=some 3) (h1o:o1.op=.move (.tmp 0)) (h1g:o1.guard=none) (h2d:o2.dst=some 4) {t yt:TypeId} (h2o:o2.op=.binOp .eql t (.tmp 3) (.const (.slice none 0 0)) yt) (h2g:o2.guard=none) (hsl:slT Y.T t=true)
  (hku:(Nat.ble c.Γ.env.length 8&&(Dp c.Γ.env 0&&Nat.blt c.Γ.env.length 100000))=true) {an0 anA anC:An} (hoff:∀x,okW 8 (XS.put (S00 Y c x) 2 [] .ns) 3=true∧okW 8 (XS.put (S00 Y c x) 2 [] .ns) 4=true)
  (hen:∀x,(⟨0,[],v0 x⟩:En)∈(((S00 Y c x).put 2 [] .ns).flat).env)
  (hv0:∀(x:c.Γ.De) (X:Cx) (β:Nat→Nat) (ρ:Nat→Value) (a:Act) (w:World) (cs:List Value),Rel X β ρ (((S00 Y c x).put 2 [] .ns).flat) a w→cr β ρ (okR X β ρ (((S00 Y c x).put 2 [] .ns).flat).mem w) w false (v0 x) cs →
   ∃A0 m0 c0,(v0 x).val cs=.slice A0 m0 c0∧(A0=none→fA x=c.fn x))
  (h0:∀x,Up Y [] 8 0 an0 R0 (S00 Y c x) (fun e S=>match e with | .n=>some S | _=>none)=some ((S00 Y c x).put 2 [] .ns))
  (hA:∀x,Up Y [] 8 0 anA A (S2c ((S00 Y c x).put 2 [] .ns) (v0 x) true) (Jfr Y fn c)=fA x)
  (hC:∀x,Up Y [] 8 0 anC C (S2c ((S00 Y c x).put 2 [] .ns) (v0 x) false) (Jfr Y fn c)=c.fn x):Qbb P Y.gl c:=by
 obtain⟨te,el,hte,htd⟩:∃te el,Qk Y.T t=some te∧te.d=.slice el:=by
  unfold slT at hsl
  split at hsl
  ·rename_i te hte
   cases hd:Yy te.d with
   | none=>rw[hd]at hsl; cases hsl
   | some el=>exact⟨te,el,hte,Yx hd⟩
  ·cases hsl
 simp only[QQ]at hku
 refine Jb0 hT hf rfl hb (by rw[hn]; exact hku.1) hku.2.1 hku.2.2 fun xs y X β ρ a w Q hy hG hX hr hp hR H=>?_
 have hX8:X.n=8:=hX.trans hn
 have hK:KsX P Y X []:=⟨(fun _ h=>by cases h),hG⟩
 refine wp_seq (Ux hT hmix hK hX8 hr hp an0 hR (h0 xs) fun e β1 ρ1 S1 a1 w1 k1 k2 k3=>?_)
 cases e with
 | x i=>cases k1
 | r=>cases k1
 | n =>
  simp only[Option.some.injEq]at k1
  subst k1
  obtain⟨cs,q1,q2⟩:=(k3.en (hen xs)).1 (Qf a1)
  obtain⟨A0,m0,c0,hv,hnil⟩:=hv0 xs X β1 ρ1 a1 w1 cs k3 q2
  have hev0:a1.eval (.tmp 0)=.slice A0 m0 c0:=by
   rw[←hv]
   have q1':a1.tmps[0]?=some ((v0 xs).val cs):=q1
   show a1.tmps.getD 0 undef=_
   simp_all
  have hokd3:=(Y2 (S:=(S00 Y c xs).put 2 [] .ns) (show okW 8 _ 3=true from(hoff xs).1) hX8 hr)
  have hokd4:=(Y2 (S:=(S00 Y c xs).put 2 [] .ns) (show okW 8 _ 4=true from(hoff xs).2) hX8 hr)
  have r1:=k3.put0 hokd3.1 (x:=v0 xs) (c:=cs) q2
  have r2:=r1.put0 hokd4.1 (x:=.d .bool A0.isNone) (c:=[.bool A0.isNone]) rfl
  have hfin:∀b,A0.isNone=b→Rel X β1 ρ1 (S2c ((S00 Y c xs).put 2 [] .ns) (v0 xs) b).flat ((a1.put (some 3) ((v0 xs).val cs)).put (some 4) (.bool b)) w1:=fun b hb=>by
   subst hb
   have e:(S2c ((S00 Y c xs).put 2 [] .ns) (v0 xs) A0.isNone).flat=(((((S00 Y c xs).put 2 [] .ns).flat).put 3 [] (v0 xs)).put 4 [] (.d .bool A0.isNone)):=by
    exact(Kx (S:=((S00 Y c xs).put 2 [] .ns).put 3 [] (v0 xs)) hokd4.2).trans (congrArg (fun z=>St.put z 4 [] (.d .bool A0.isNone)) (Kx hokd3.2))
   rw[e]
   exact r2
  have hev3:(a1.put (some 3) ((v0 xs).val cs)).eval (.tmp 3)=.slice A0 m0 c0:=by
   have hlt:3<a1.tmps.size:=by rw[k3.sz,hX8]; decide
   show(a1.put (some 3) ((v0 xs).val cs)).tmps.getD 3 undef=_
   rw[←hv]
   simp[Act.put,QM,hlt]
  have hkeep:∀b,Vh ((S00 Y c xs).put 2 [] .ns) (S2c ((S00 Y c xs).put 2 [] .ns) (v0 xs) b) β1 β1 ρ1 ρ1:=fun b=>⟨rfl,rfl,rfl,agP.refl _ _ _⟩
  refine wp_seq (wp_seq ?_)
  refine wp_region_list ?_
  refine Jk (Zh h1g _) (Yl (w':=w1) (v:=.slice A0 m0 c0) (by
   simp_all [execOp]) ?_)
  rw[h1d,←hv]
  refine Jk (Zh h2g _) (Yl (w':=w1) (v:=.bool A0.isNone) (by
   unfold execOp
   rw[h2o]
   have hu:=J2 hT w1 hte
   rw[htd]at hu
   have he:=Joj (A:=A0) (m:=m0) (c:=c0) hu
   simp[hev3,show(a1.put (some 3) ((v0 xs).val cs)).eval (.const (.slice none 0 0))=.slice none 0 0 from rfl,eqGuard,binOp,he]) ?_)
  rw[h2d]
  have hev4:∀b:Bool,((a1.put (some 3) ((v0 xs).val cs)).put (some 4) (.bool b)).eval (.tmp 4)=.bool b:=fun b=>by
   have hlt:4<a1.tmps.size:=by rw[k3.sz,hX8]; decide
   show((a1.put (some 3) ((v0 xs).val cs)).put (some 4) (.bool b)).tmps.getD 4 undef=_
   simp[Act.put,QM,hlt]
  cases hA0:A0.isNone with
  | true =>
   have hyy:fA xs=some y:=(hnil (by simp_all)).trans hy
   refine wp_cond_split (hev4 true) (fun _=>?_) (fun h=>by cases h)
   refine Ux hT hmix hK hX8 hr hp anA (hfin true hA0) ((hA xs).trans hyy) fun e β' ρ' S' a' w' g1 g2 g3=>?_
   cases e with
   | x i=>cases g1
   | n=>cases g1
   | r=>exact H .r β' ρ' S' a' w' g1 ((k2.trans (hkeep true)).trans g2) g3
  | false =>
   refine wp_cond_split (hev4 false) (fun h=>by cases h) (fun _=>?_)
   refine wp_skip ?_
   refine Ux hT hmix hK hX8 hr hp anC (hfin false hA0) ((hC xs).trans hy) fun e β' ρ' S' a' w' g1 g2 g3=>?_
   cases e with
   | x i=>cases g1
   | n=>cases g1
   | r=>exact H .r β' ρ' S' a' w' g1 ((k2.trans (hkeep false)).trans g2) g3
theorem V3(hT:Q0 P Y.T)(hmix:P.follows .mixedOrders=true){f:FuncId}{fn:Func}(hf:P.funcs[f]?=some fn){u:Ty}{Δ:Shp}{fc:List u.De→Option Δ.De}(hn:fn.ntmps=8){R0 A C:Code}{i1:Nat}{o1 o2:Oper}(hb:fn.body=some (.seq R0 (.seq (.seq (.region i1 ⟨[o1,o2]⟩ false) (.cond (.tmp 4) A .skip)) C)))
  (h1d:o1.dst=some 3) (h1o:o1.op=.move (.tmp 0)) (h1g:o1.guard=none) (h2d:o2.dst=some 4) {t yt:TypeId} (h2o:o2.op=.binOp .eql t (.tmp 3) (.const (.slice none 0 0)) yt) (h2g:o2.guard=none) (hsl:slT Y.T t=true)
  {y0:Δ.De} (happ:fc []=some y0) {an0 anA anC:An} (hoff:okW 8 (XS.put (S00 Y (Tv f u Δ fc) []) 2 [] .ns) 3=true∧okW 8 (XS.put (S00 Y (Tv f u Δ fc) []) 2 [] .ns) 4=true)
  (h0:∀xs:List u.De,Up Y [] 8 0 an0 R0 (S00 Y (Tv f u Δ fc) xs) (fun e S=>match e with | .n=>some S | _=>none)=some ((S00 Y (Tv f u Δ fc) xs).put 2 [] .ns))
  (hA:∀xs:List u.De,Up Y [] 8 0 anA A (S2c ((S00 Y (Tv f u Δ fc) xs).put 2 [] .ns) (.d (.sl u) xs) true) (Jfr Y fn (Tv f u Δ fc))=some y0)
  (hC:∀xs:List u.De,Up Y [] 8 0 anC C (S2c ((S00 Y (Tv f u Δ fc) xs).put 2 [] .ns) (.d (.sl u) xs) false) (Jfr Y fn (Tv f u Δ fc))=fc xs):Qbb P Y.gl (Tv f u Δ fc) :=
 Qxg hT hmix (c:=Tv f u Δ fc) hf (v0:=fun xs=>.d (.sl u) xs) (fA:=fun _=>some y0) hn hb h1d h1o h1g h2d h2o h2g hsl rfl (fun _=>hoff) (fun _=>.tail _ (.head _))
  (fun xs X β ρ a w cs _ hc=>by
   obtain⟨A0,m0,c0,hv,hl,hle,hat⟩:Qv5 (rt u) _ w xs ((AV.d (.sl u) xs).val cs):=U9.1 ⟨cs,hc,rfl⟩
   refine⟨A0,m0,c0,hv,fun hA0=>?_⟩
   have hxs:xs=[]:=by
    grind
   subst hxs
   exact happ.symm) h0 hA hC
def Qz7{α:Type}(bytes:Nat)(xs:List α):Option (List α×List α):=(app bytes [] xs).bind fun zs=>some (xs,zs)
abbrev Js8(e:TypeId)(u:Ty):Shp:=⟨[(0,.s 5000)],[(5000,.row e u)]⟩
abbrev Jvf(e:TypeId)(u:Ty):Shp:=⟨[(0,.s 0)],[(5000,.row e u),(0,.row e u)]⟩
theorem Jfs(hT:Q0 P Y.T)(hmix:P.follows .mixedOrders=true){fn:Func}{c:Con}(hf:P.funcs[c.f]?=some fn){fA:c.Γ.De→Option (Qa6 c.Δ)}(hn:fn.ntmps=8){R0 A C:Code}{i1:Nat}{o1 o2:Oper}(hb:fn.body=some (.seq R0 (.seq (.seq (.region i1 ⟨[o1,o2]⟩ false) (.cond (.tmp 4) A .skip)) C)))
  (h1d:o1.dst=some 3) (h1o:o1.op=.move (.tmp 0)) (h1g:o1.guard=none) (h2d:o2.dst=some 4) {t yt:TypeId} (h2o:o2.op=.binOp .eql t (.tmp 3) (.const (.slice none 0 0)) yt) (h2g:o2.guard=none) (hsl:slT Y.T t=true)
  (hku:(Nat.ble c.Γ.env.length 8&&(Dp c.Γ.env 0&&Nat.blt c.Γ.env.length 100000))=true) {an0 anA anC:An} (hoff:∀x,okW 8 (XS.put (S00 Y c x) 2 [] .ns) 3=true∧okW 8 (XS.put (S00 Y c x) 2 [] .ns) 4=true)
  {g:List En} (hen:∀x,(((S00 Y c x).put 2 [] .ns).flat).env=⟨2,[],.ns⟩::⟨0,[],.s 5000⟩::g) {e:TypeId} {u:Ty} {fx:c.Γ.De→List u.De} (hm:∀x,Qh (((S00 Y c x).put 2 [] .ns).flat).mem 5000=some (.row e u (fx x))) (hnil:∀x,fx x=[]→fA x=c.fn x)
  (h0:∀x,Up Y [] 8 0 an0 R0 (S00 Y c x) (fun e S=>match e with | .n=>some S | _=>none)=some ((S00 Y c x).put 2 [] .ns))
  (hA:∀x,Up Y [] 8 0 anA A (S2c ((S00 Y c x).put 2 [] .ns) (.s 5000) true) (Jfr Y fn c)=fA x)
  (hC:∀x,Up Y [] 8 0 anC C (S2c ((S00 Y c x).put 2 [] .ns) (.s 5000) false) (Jfr Y fn c)=c.fn x):Qbb P Y.gl c :=
 Qxg hT hmix hf (v0:=fun _=>.s 5000) hn hb h1d h1o h1g h2d h2o h2g hsl hku hoff (fun x=>by rw[hen x]; grind)
  (fun x X β ρ a w cs hR hc=>by
   obtain⟨⟨v,rfl,hz⟩,A,m,c1,hρ⟩:=hc
   have hob:=(hR.ob (hm x)).1
   have hob':(ml (ρ 5000) e (rt u) (fx x)).p _ w:=hob
   obtain⟨hl,cs1,hown,_⟩:=hob'
   rcases hz with rfl | ⟨h00,A0,rfl⟩
   ·refine⟨A,m,c1,hρ,fun hA0=>hnil x ?_⟩
    subst hA0
    refine List.length_eq_zero_iff.1 ?_
    rw[←hl]
    rcases hown.2 with⟨hv,h0⟩ | ⟨g,cap,cur,fz,hv,_⟩
    ·exact h0
    grind
   ·refine⟨A0,0,0,rfl,fun _=>hnil x ?_⟩
    refine List.length_eq_zero_iff.1 ?_
    rw[←hl,h00]; rfl) h0 hA hC
end
end Gx

/- The keys of a map of one's own, in order: slices.Sorted(maps.Keys(m)) at keys that are ints. -/
namespace Gx
open Go Go.RowKit Gd
set_option linter.unusedVariables false
set_option linter.unusedSimpArgs false
def Fz(z:Int):Bool:=decide (-9223372036854775808≤z)&&decide (z≤9223372036854775807)
def Q9b(x:Int):List Int→List Int
 | []=>[x]
 | y::r=>bif decide (x≤y)then x::y::r else y::Q9b x r
def Qc3:List Int→List Int
 | []=>[]
 | x::r=>Q9b x (Qc3 r)
def Qi5{β:Type}(xs:List (Int×β)):Option (List Int):=bif Nat.ble (xs.length*8) 140737488355328&&xs.all (fun q=>Fz q.1)then some (Qc3 (xs.map Prod.fst))else none
theorem Qny(x:Int):∀l:List Int,(Q9b x l).Perm (x::l)
 | []=>.refl _
 | y::r=>by
  unfold Q9b
  cases h:decide (x≤y)
  ·exact((Qny x r).cons y).trans (.swap ..)
  ·exact .refl _
theorem A1:∀l:List Int,(Qc3 l).Perm l
 | []=>.refl _
 | x::r=>(Qny x _).trans ((A1 r).cons x)
theorem Qpc(x:Int):∀l:List Int,l.Pairwise (·≤·)→(Q9b x l).Pairwise (·≤·)
 | [],_=>by simp[Q9b]
 | y::r,h=>by
  unfold Q9b
  cases hd:decide (x≤y)
  ·have hd:=of_decide_eq_false hd
   refine List.pairwise_cons.2 ⟨fun z hz=>?_,Qpc x r (List.pairwise_cons.1 h).2⟩
   rcases QJ.1 ((Qny x r).mem_iff.1 hz)with rfl | hz
   ·omega
   simp_all
  ·have hd:=of_decide_eq_true hd
   refine List.pairwise_cons.2 ⟨fun z hz=>?_,h⟩
   rcases QJ.1 hz with rfl | hz
   ·exact hd
   grind [Int.le_trans,List.pairwise_cons]
theorem Qi6:∀l:List Int,(Qc3 l).Pairwise (·≤·)
 | []=>.nil
 | x::r=>Qpc x _ (Qi6 r)
theorem Qpz{ss l:List Int}(h:ss.Perm l):ss.mergeSort (fun x y=>decide (x≤y))=Qc3 l:=by
 refine List.Perm.eq_of_pairwise (le:=fun a b:Int=>a≤b) (fun a b _ _ h1 h2=>Int.le_antisymm h1 h2) ?_ (Qi6 l) (((ZP _ _).trans h).trans (A1 l).symm)
 exact(List.pairwise_mergeSort (fun a b c h1 h2=>by grind) (fun a b=>by grind) ss).imp fun h=>of_decide_eq_true h
section
variable {P:Program} {gl:List (Nat×Σ t:Ty,t.De)}
abbrev inK(g tid:Nat)(v:Ty):Shp:=⟨[(0,.f g (.cons (.p 5000 []) .nil))],[(5000,.var tid (.m 5001)),(5001,.map (.int .i64) v)]⟩
abbrev Jok:Shp:=⟨[(0,.d (.sl (.int .i64)))],[]⟩
def Qc4(_:Value):Option (DataW Unit×List MemPlace):=some (.lit (.bool true),[])
theorem wfZ{z:Int}(h:Fz z=true):(Lit.int .i64 z).wf=true:=by
 unfold Fz at h
 simp only[QQ,decide_eq_true_eq]at h
 have h1:IntKind.i64.min = -9223372036854775808:=rfl
 have h2:IntKind.i64.max=9223372036854775807:=rfl
 grind [Lit.wf]
def Jjs:Value→Lit
 | .int k z=>.int k z
 | _=>.bool false
theorem Qxh{kt:TypeId}(hkt:P.underlying kt=some (.int .i64)){v:Ty}{ok:Ok}{w:World}:∀{xs:List (Int×v.De)} {l:List MapEntry},W8 (rt (.int .i64)) (rt v) ok w xs l→xs.all (fun q=>Fz q.1)=true →
  l.map MapEntry.key=xs.map (fun q=>Value.int .i64 q.1)∧∀e∈l,Go.WideElems.rd (H:=Unit) P kt Qc4 e=some (Jjs e.key,.lit (.bool true))
 | [],l,h,_=>by cases(show l=[]from h); grind
 | x::xs,l,h,hk=>by
  obtain⟨e,es',rfl,q1,_,q3⟩:=h
  simp only[JM,QQ]at hk
  have hx:e.key=.int .i64 x.1:=Ja1.1 q1
  obtain⟨i1,i2⟩:=Qxh hkt q3 hk.2
  refine⟨by simp[hx,i1],fun e' he'=>?_⟩
  rcases QJ.1 he' with rfl | he'
  ·unfold Go.WideElems.rd
   rw[hx,Go.Maps.keyOf_int_mk hkt (wfZ hk.1)]
   rfl
  ·exact i2 e' he'
theorem Jjt{kt:TypeId}(hkt:P.underlying kt=some (.int .i64)){v:Ty}{xs:List (Int×v.De)}{ok:Ok}{w:World}{b:Nat}(h:(Co b (rt (.int .i64)) (rt v) xs).p ok w)(hlen:xs.length*8≤140737488355328)(hk:xs.all (fun q=>Fz q.1)=true) :
  ∃D0:DataW Unit,w.ownsMap P kt Qc4 b xs.length D0∧Maps.size D0=xs.length∧(intKeys D0).Perm (xs.map Prod.fst):=by
 obtain⟨es,clock,ys,h1,h0,h2,h3,h4,h5⟩:=h
 replace hk:ys.all (fun q=>Fz q.1)=true:=QP.2 fun q hq=>QP.1 hk q (h0.mem_iff.1 hq)
 replace h3:=(h0.map _).nodup_iff.2 h3
 have hly:=h0.length_eq
 have hpy:=h0.map Prod.fst
 obtain⟨k1,k2⟩:=Qxh hkt h2 hk
 have hl:es.size=ys.length:=by
  have:=congrArg List.length k1
  grind
 have hperm:=Go.WideShapes.sorted_perm (es.toList.map (Go.WideElems.rg P kt (Qc4)))
 have hrg:∀e∈es.toList,Go.WideElems.rg P kt Qc4 e=(Jjs e.key,.lit (.bool true)):=fun e he=>Go.WideElems.rg_of (k2 e he)
 refine⟨_,⟨es,clock,h1,⟨?_,⟨h5,h4,?_⟩,fun e he=>⟨_,k2 e he⟩⟩,Nat.le_of_eq (hl.trans hly),rfl⟩,?_,?_⟩
 ·rw[hl]
  have:maxLen=9223372036854775807:=rfl
  omega
 ·rw[show(es.toList.map (fun e=>e.key))=ys.map (fun q=>Value.int .i64 q.1)from k1,show ys.map (fun q=>Value.int .i64 q.1)=(ys.map Prod.fst).map (Value.int .i64)from by simp]
  grind
 ·show List.length _=_
  rw[hperm.length_eq,JO]; simpa using hl.trans hly
 ·refine List.Perm.trans ((hperm.map _).trans ?_) hpy
  rw[ZY,show(es.toList.map ((fun p:Lit×DataW Unit=>intOf p.1)∘Go.WideElems.rg P kt Qc4))=es.toList.map (fun e=>intOf (Jjs e.key))from List.map_congr_left fun e he=>by simp[hrg e he],
   show(es.toList.map (fun e=>intOf (Jjs e.key)))=(es.toList.map MapEntry.key).map (fun u=>intOf (Jjs u))from by simp,k1]
  rw[ZY]
  exact .of_eq (List.map_congr_left fun q _=>rfl)
theorem Jju{w:World}{ok:Ok}{B:Nat}{kt:TypeId}{u:Value}{l:List Int}(h:w.ownsRow B kt 1 u l.length (l.map (Value.int .i64)))(hok:∀b o,B≤b→b<w.heap.size→ok b o):isV (rSl (Tk .i64)) ok w l u:=by
 refine U9.2 ?_
 rcases h.2 with⟨rfl,hz⟩ | ⟨g,cap,cur,rfl,hb,hg,r1,r2,r3,r4⟩
 ·exact⟨none,0,0,rfl,hz,QY _,fun h0=>absurd h0 (by omega)⟩
 ·refine⟨_,_,_,rfl,rfl,r1,fun _=>⟨g,0,rfl,fun i x hi=>⟨[.int .i64 x],rfl,fun j v hj=>?_⟩⟩⟩
  match j,hj with
  | 0,hj =>
   simp only[ZV,Option.some.injEq]at hj
   subst hj
   refine⟨hok _ _ hb (Vb hg),?_⟩
   have hsz:(Tk .i64).size=1:=rfl
   have h1:(cur.toList.take (l.length*1))[i]?=some (Value.int .i64 x):=by rw[r4,JS,hi]; rfl
   have hil:=(List.getElem?_eq_some_iff.1 hi).1
   rw[List.getElem?_take_of_lt (by omega)]at h1
   simp_all [QV,XB,JP,World.cell?]
theorem Q4p{f g tid:Nat}{kt:TypeId}{v:Ty}(hm:∀x:List (Int×v.De),(enc (inK g tid v) x).mem=[(5000,.var tid (.m 5001)),(5001,.map (.int .i64) v x)])(hkt:P.underlying kt=some (.int .i64))
  (h:∀(Bm b nn:Nat) (D0:DataW Unit) (w:World),Bm<w.heap.size→w.cell? ⟨Bm,0,none⟩=some (.map (some b))→w.ownsMap P kt Qc4 b nn D0→Maps.size D0≤maxLen→Maps.size D0*8≤140737488355328 →
   Calls P f #[.func (.func g) #[] #[.pointer (some ⟨Bm,0,none⟩)]] w fun e w'=>∃(u:Value) (ss:List Int),e=.returned u∧ss.Perm (intKeys D0)∧w'.ownsRow w.heap.size kt 1 u ss.length ((ss.mergeSort (fun x y=>decide (x≤y))).map encZ)∧(u=.slice none 0 0↔ss=[])∧Below w.heap.size w w') :
  Qbb P gl ⟨f,inK g tid v,[Jok],fun xs=>Qi5 xs,[5000,5001]⟩:=by
 intro ok w L β ρ x y vs hok hG hlen hL hargs hy
 have hy:Qi5 (β:=v.De) x=some y:=hy
 unfold Qi5 at hy
 obtain⟨hb,hy⟩:=bvT hy
 simp only[QQ]at hb
 have hy:=(Option.some.inj hy).symm
 have hmx:(enc (inK g tid v) x).mem=[(5000,.var tid (.m 5001)),(5001,.map (.int .i64) v x)]:=hm x
 have hO:Qk5 [Qfc β ρ (β 5000) tid (.m 5001),Co (β 5001) (rt (.int .i64)) (rt v) x] L ok w:=by
  have hL':Qk5 (Qj β ρ (enc (inK g tid v) x).mem) L ok w:=hL
  rw[hmx]at hL'
  exact hL'
 have p1:=(hO.1 _ (.head _)).1
 have p2:=(hO.1 _ (.tail _ (.head _))).1
 obtain⟨cs,c1,c2⟩:=p1
 have c2:cs=[.map (some (β 5001))]:=c2
 subst c2
 obtain⟨D0,o1,o2,o3⟩:=Jjt hkt p2 (QK hb.1) hb.2
 have hvs:vs=[.func (.func g) #[] #[.pointer (some ⟨β 5000,0,none⟩)]]:=by
  obtain⟨cs,q1,vs',q2,c1,vs2,q3,q4,q5⟩:=hargs ⟨0,[],.f g (.cons (.p 5000 []) .nil)⟩ (.head _)
  have q4:c1=[.pointer (some ⟨β 5000,0,none⟩)]:=q4
  have q5:vs2=[]:=q5
  subst q4; subst q5; subst q3; subst q2
  match vs,hlen with
  | [u],_ =>
   simp only[ZV,Option.some.injEq]at q1
   rw[q1]; rfl
 subst hvs
 have hlen8:=QK hb.1
 have hmax:maxLen=9223372036854775807:=rfl
 refine(h (β 5000) (β 5001) _ D0 w (Vb c1) (by simp[World.cell?,c1]) o1 (by omega) (by omega)).mono ?_
 rintro e w' ⟨u,ss,rfl,hp,hrow,_,hbel⟩
 have hsort:ss.mergeSort (fun x y=>decide (x≤y))=y:=(Qpz (hp.trans o3)).trans hy.symm
 have hln:ss.length=y.length:=by rw[←hsort]; simp[ZP]
 rw[hsort,hln]at hrow
 have hmem:Qj β ρ ((Qh1 (⟨f,inK g tid v,[Jok],fun xs=>Qi5 xs,[5000,5001]⟩:Con).Δ y).mem++roM (⟨f,inK g tid v,[Jok],fun xs=>Qi5 xs,[5000,5001]⟩:Con) x)=[Qfc β ρ (β 5000) tid (.m 5001),Co (β 5001) (rt (.int .i64)) (rt v) x]:=by
  show Qj β ρ ([]++rdM [5000,5001] (enc (inK g tid v) x).mem)=_
  rw[hmx]; rfl
 have hlt:∀t∈[Qfc β ρ (β 5000) tid (.m 5001),Co (β 5001) (rt (.int .i64)) (rt v) x],∀g,t.blks g→g<w.heap.size:=fun t ht g hg=>t.lt (hO.1 t ht).1 g hg
 refine⟨u,rfl,⟨β,ρ,fun i hi=>⟨rfl,rfl⟩,⟨[u],rfl,?_⟩,?_,?_⟩,Uz.of _ hbel⟩
 ·rw[hmem]
  refine⟨u,rfl,U9.1 (Jju hrow fun b o h1 h2=>⟨.inr h1,h2,by simp,fun t ht hc=>?_⟩)⟩
  have:=hlt t ht b (t.cb hc)
  omega
 ·rw[hmem]
  intro t ht
  refine⟨?_,fun g hg=>.inr ((hO.1 t ht).2.1 g hg)⟩
  have hk:∀b o,ok b o→Je (okL L ok) w.heap.size (fun _=>0) [] [Qfc β ρ (β 5000) tid (.m 5001),Co (β 5001) (rt (.int .i64)) (rt v) x] w' b o:=fun b o hbo =>
   ⟨.inl (.inl hbo),QB (hok b o hbo) hbel.size,by simp,fun s hs hc=>(hO.1 s hs).2.2 b o (s.cb hc) hbo⟩
  exact t.weak (t.keep (hO.1 t ht).1 (fun g hg=>hbel.block g (hlt t ht g hg)) (Evo.of_blocks hbel.size fun b o hbo=>hbel.block b (hok b o hbo))) hk
 ·rw[hmem]
  exact hO.2.1
end
end Gx
