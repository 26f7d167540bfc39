/- Literals as rows; maps whose values are objects of their own. -/
import Derived.Test.YtfkpgpibpnghiaaGreatXM
import Derived.StillTail
namespace Gx
open Go Go.RowKit Gd
set_option linter.unusedVariables false
set_option linter.unusedSimpArgs false
theorem Qzo{v:Value}(h:Qo7 v=true):v=.map none:=by
 grind [Qo7]
theorem Q4k{v:Value}(h:Qv2 v=true):v=.slice none 0 0:=by
 grind [Qv2]
def Jpj:CK→Value
 | .sl _ _=>.slice none 0 0
 | .mp _ _=>.map none
theorem Qtm{c:CK}{v:Value}(h:Q4a c v=true):v=Jpj c:=by
 cases c with
 | sl e u=>exact Q4k h
 | mp k w=>exact Qzo h
theorem Jez{c:CK}:(Jpj c).oneCell'=true:=by cases c<;>rfl
theorem Je0{β:Nat→Nat}{ρ:Nat→Value}{ok:Ok}{w:World}{M:List (Nat×Ob)}(hM:∀id o,Qe M id=some o→(Q0 β ρ id o).p ok w){R:Type}{kk:Ty}(hk:Qa5 kk=true){c:CK}{xs:List (kk.De×c.ty.De)}{hole:Option (kk.De×Nat)}{key:kk.De}{vs:List Value}{ys:List (kk.De×Value)}
  (yj:Bp c (Qys hole) (Lf β ρ c hole) ok w xs ys vs) (um:∀k,Qys hole=some k→k∉xs.map Prod.fst→Lf β ρ c hole=.slice none 0 0) {z:Value} (hz:Q4a c z=true) {av:AV}
  (mz:(∃q,hole=some q∧Ht (Qlm c (Qe M q.2))=true∧eqK kk key q.1=true∧av=avC c q.2)∨(hole=none∧(∃k v,c=.mp k v)∧Qw key xs=none∧av=.nm)) :
  ∃cs,(Qw key ys).getD z=av.val cs∧cr β ρ ok w false av cs:=by
 have hz:=Qtm hz
 rcases mz with⟨q,rfl,hq,he,rfl⟩ | ⟨rfl,⟨k2,v2,rfl⟩,hn,rfl⟩
 ·have hkq:=(K3 hk).1 he
  have ei:zal ((Qw key ys).getD z) (Lf β ρ c (some q)):=by
   rcases Qjo key yj with⟨q1,q2⟩ | ⟨x,y,q1,q2,k1,q3,q4,q5⟩
   ·have ql:=um q.1 rfl (by rw[←hkq]; exact Qs2 hk q1)
    rw[q2,ql]
    cases c with
    | sl e u=>exact .inl hz
    | mp k v=>cases ql
   ·rw[q2]
    exact q5 (by rw[←(K3 hk).1 q3,hkq]; rfl)
  cases hx:Qlm c (Qe M q.2)with
  | none=>rw[hx]at hq; cases hq
  | some x0 =>
   have ui:=hM _ _ (Qpn hx)
   cases c with
   | sl e u =>
    obtain⟨_,cs,kb,_⟩:=ui
    refine⟨[(Qw key ys).getD z],rfl,⟨_,rfl,ei⟩,?_⟩
    rcases kb.2 with⟨hv,_⟩ | ⟨g,cap,cur,fz,hv,_⟩<;>exact⟨_,_,_,hv⟩
   | mp k v =>
    rcases ei with h1 | ⟨h1,_⟩
    ·exact⟨[.map (some (β q.2))],h1,rfl⟩
    ·cases h1
 ·have:Qw key ys=none:=by
   grind [Qjo]
  rw[this]
  exact⟨[.map none],hz,rfl⟩
section
variable {P:Program} {Y:TX} {X:Cx} {S:XS} {β β':Nat→Nat} {ρ ρ':Nat→Value} {a a':Act} {w w':World} {n:Nat}
variable {ops:Array Oper} {Q:Exit→Act→World→Prop} {rest:List Oper} {R:Type} {k:XS→Option R} {r:R}
theorem Q4l(hX:X.n=n)(hr:X.res=[])(h:Rel X β ρ S.flat a w){o:Oper}(hw:Region.wanted o (yielded ops a.tmps)=true){d:Nat}(hd:o.dst=some d)(zi:okW n S d=true)(hb:okB S d=true){t:TypeId}(ko:o.op=.makeMap t none){kk:Ty}{c:CK}
  (hk:k ((S.born d (.mapC kk c [] none)).put d [] (.m d))=some r) (H:KOk P ops Q rest X S β ρ k r):wpList P ops Q (o::rest) a w:=by
 obtain⟨h1,h2⟩:=Vb zi hX hr
 obtain⟨f1,f2,f3⟩:=H3 hb
 have ka:(execOp a.eval o).run P w=.ok (.value (.map (some w.heap.size))) (w.alloc (.map #[] 0)):=by
  simp_all [execOp,Instr.makeMap]
 refine Jr hw (Yr ka ?_)
 rw[hd]
 have ha:=Qju d β ρ w.heap.size (.tuple #[])
 have zp:Below w.heap.size w (w.alloc (.map #[] 0)):=(Below.refl _ _).alloc (QY _) _
 refine H (upd β d w.heap.size) (upd ρ d (.tuple #[])) _ _ _ hk (U0 f3 ha _ _ _) ?_
 have hA:Rel X (upd β d w.heap.size) (upd ρ d (.tuple #[])) ⟨Yy (Vq d S.env) d++S.fix,(d,.mapC kk c [] none)::(S.mem++S.fixM)⟩ a (w.alloc (.map #[] 0)):=by
  refine Rel.alloc h ha f1 (fun e he=>let⟨q1,q2,_⟩:=Lo f2 h2 e he; ⟨q1,q2⟩) zp (fun g hg=>?_) ?_
  ·have yb:g=upd β d w.heap.size d∨∃v∈Sn (upd ρ d (.tuple #[]) d),Z5 v=some g:=hg
   rw[Je,Je]at yb
   rcases yb with yb | ⟨v,hv,_⟩
   ·omega
   ·cases hv
  ·refine⟨[],⟨#[],0,?_,rfl,by simp,by simp⟩,?_,by simp,?_,?_,fun _ e=>by cases e⟩
   ·rw[Je]; exact heap_alloc_new w _
   ·rw[Je]; trivial
   ·rw[Je]; exact .nil
   grind [Je,Sn]
 have hP:=hA.put0 h1 (x:=.m d) (c:=[.map (some (upd β d w.heap.size d))]) rfl
 have hv:(AV.m d).val [.map (some (upd β d w.heap.size d))]=.map (some w.heap.size):=by rw[Je]; rfl
 rw[hv]at hP
 have he:((S.born d (.mapC kk c [] none)).put d [] (.m d)).flat=⟨⟨d,[],.m d⟩::(Yy (Vq d S.env) d++S.fix),(d,.mapC kk c [] none)::(S.mem++S.fixM)⟩:=rfl
 rw[he]
 refine hP.less fun e hm=>?_
 rcases QJ.1 hm with rfl | hm
 ·exact .head _
 ·refine .tail _ ?_
  have:Yy (Yy (Vq d S.env) d++S.fix) d=Yy (Vq d S.env) d++S.fix:=by
   rw[Cu h2]
   congr 1
   have idem:∀l:List En,Yy (Yy l d) d=Yy l d:=by
    intro l
    induction l with
    | nil=>rfl
    | cons x l ih =>
     simp only[Yy]
     cases hb:(Nat.beq x.t d||Qbo d x.cs)with
     | true=>simpa using ih
     | false=>simp_all [cond_false,Yy]
   exact idem _
  show e∈Yy (Yy (Vq d S.env) d++S.fix) d
  rw[this]; exact hm
theorem Je1{β:Nat→Nat}{ρ:Nat→Value}{ok:Ok}{a:Act}{w:World}{S:St}(h:Br β ρ ok S a w){cur:Y4}(hc:Js a cur){ky:Operand}{kv:AV}(ux:Gx.ev S cur ky=some kv){kk:Ty}{key:kk.De}(yi:asD [] kv kk=some key){d:TypeDesc}{T:Tab}(ve:Y5 T kk d=true)(qk:(kk.agg==kv.isAgg)=true):a.eval ky=Yw kk key:=by
 obtain⟨c3,h3,h4⟩:=h.ev hc ux
 refine Cq (ok:=ok) (w:=w) (Vp ve) ⟨c3,K4 (M:=[]) (β:=β) (ρ:=ρ) (by simp[Qe]) yi h4,?_⟩
 rw[h3]; simp_all [AV.val,RT.val,Ld,bEq]
theorem Qzp(hT:Q6 P Y.T)(hX:X.n=n)(hr:X.res=[])(h:Rel X β ρ S.flat a w){o:Oper}(hw:Region.wanted o (yielded ops a.tmps)=true)(hs:Qe3 Y n o S k=some r)(H:KOk P ops Q rest X S β ρ k r):wpList P ops Q (o::rest) a w:=by
 unfold Qe3 at hs
 split at hs
 ·rename_i t m ps d ko hd
  split at hs
  ·rename_i te ku
   split at hs
   ·rename_i e htd0
    split at hs
    ·rename_i ee u vs he hu uf
     split at hs
     ·rename_i xs xp
      obtain⟨hb,hk⟩:=bvT hs
      simp only[QQ]at hb
      obtain⟨⟨⟨⟨⟨⟨zi,ue⟩,kg⟩,hl⟩,vw⟩,zn⟩,xa⟩:=hb
      have kr:=Yq htd0
      obtain⟨f1,f2,f3⟩:=H3 ue
      obtain⟨h1,h2⟩:=Vb zi hX hr
      have hg:=Ln h hw
      obtain⟨us,q1,q2,q3,q4⟩:=Qv9 h uf xp
      have yx:=Nat.eq_of_beq_eq_true kg
      have xm:=Nat.eq_of_beq_eq_true hl
      have xg:∀v∈us,(Qu v).length=ee.size:=fun v hv=>by rw[Qjl q2 v hv,Jf,yx]
      have zz:(Uw (Qu ee.z) ((m+1)*ee.size)).length=(m+1)*ee.size:=by simp[Uw]
      have zt:=Qy4 us 0 (Uw (Qu ee.z) ((m+1)*ee.size)) xg (by rw[zz,QV,q3,xm]; grind)
      rw[←q1]at zt
      have xr:Ni (Qbi ee.size) (Uw (Qu ee.z) ((m+1)*ee.size)) (ps.map (fun p=>(p.1,a.eval p.2)))=some (us.flatMap Qu):=by
       rw[zt]
       grind
      rw[Bv o,hd,ko]at hg ⊢
      refine Qzm hT h.toG (r:=rt u) hg h1 q4 ku kr he (by rw[Jf]; exact yx) xm vw zn (JN (QM _)) xa xr q2 fun b a' w' hS=>?_
      refine H β (upd ρ d (.slice (some ⟨b,0,none⟩) xs.length (m+1))) _ _ _ hk (U0 f3 (J0 d β ρ _) _ _ _) ?_
      have:=Zn (o:=.row e u xs) hX hr h.sz zi f1 f2 f3 hS (by grind [Q0,Je,Gk.refl]) ⟨_,_,_,rfl⟩
      exact this
     ·cases hs
    ·cases hs
   ·cases hs
  ·cases hs
 ·
  rename_i t rs d ko hd
  split at hs
  ·rename_i te ku
   split at hs
   ·rename_i kt et kr
    split at hs
    ·rename_i kk c jw hc
     obtain⟨hb,hk⟩:=bvT hs
     simp only[QQ]at hb
     have hrs:=Qd0 hb.2
     grind [Q4l]
    ·cases hs
   ·cases hs
  ·cases hs
 ·
  rename_i t m ky x ko hd
  split at hs
  ·rename_i te id kv xv ku hm ux hx
   split at hs
   ·rename_i kt et kk c xs hole kr ug
    split at hs
    ·rename_i tk key xz yi
     obtain⟨hb,hs⟩:=bvT hs
     simp only[QQ]at hb
     grind [Jnw]
    ·cases hs
   ·cases hs
  ·cases hs
 ·
  rename_i t m ky d ko hd
  split at hs
  ·rename_i te kv ku ux
   split at hs
   ·rename_i kt et kr
    split at hs
    ·rename_i tk tz id xz fb hm
     split at hs
     ·rename_i kk c xs hole ug
      split at hs
      ·rename_i key yi
       replace hs:=bvT hs
       obtain⟨hb,hs⟩:=hs
       simp only[QQ]at hb
       obtain⟨⟨⟨zi,ve⟩,qk⟩,hz⟩:=hb
       have gen:∀av,((∃q,hole=some q∧Ht (Qlm c (Qe S.flat.mem q.2))=true∧eqK kk key q.1=true∧av=avC c q.2)∨(hole=none∧(∃k v,c=.mp k v)∧Qw key xs=none∧av=.nm))→k (S.put d [] av)=some r→wpList P ops Q (o::rest) a w:=by
        intro av mz hk
        refine Jem hX hr h hw hd zi (x:=av) (fun {β ρ ok a w} h hc=>?_) hk H
        obtain⟨c1,h1,h2⟩:=h.ev hc hm
        have zb:c1=[.map (some (β id))]:=h2
        subst zb
        have k8:a.eval m=.map (some (β id)):=h1
        have pd:=Je1 h hc ux yi ve qk
        obtain⟨ys,⟨es,clock,hg,hp,_⟩,yj,_,_,_,um⟩:=h.mm _ _ ug
        obtain⟨v,ka,hv,_⟩:=Qoz hT ku kr xz fb ve hg hp key (z:=tz.z) ⟨[tz.z],⟨rfl,by rw[Qtm hz]; exact Jez⟩,rfl⟩ false
        obtain⟨cs0,⟨e0,_⟩,hv⟩:=hv
        have hv:v=(Qw key ys).getD tz.z:=by rw[hv,e0]; rfl
        obtain⟨cs,q1,q2⟩:=Je0 (R:=R) h.mm (Vp ve) yj um hz mz
        refine⟨cs,?_,q2⟩
        unfold execOp
        rw[ko]
        simp only[k8,pd]
        simp only[JH,if_false]at ka
        simp[ka,hv,q1]
       unfold Q4b at hs
       split at hs
       ·rename_i q
        replace hs:=bvT hs
        obtain⟨hq,hs⟩:=hs
        obtain⟨_,rm,hk⟩:=Yj hs
        unfold chk at rm
        grind
       ·rename_i k2 v2 xs
        obtain⟨_,rm,hk⟩:=Yj hs
        unfold chk at rm
        exact gen _ (.inr ⟨rfl,⟨_,_,rfl⟩,Qd0 (bvT rm).1,rfl⟩) hk
       ·cases hs
      ·cases hs
     grind [Qtl]
    ·rename_i tk tz xz fb hm
     split at hs
     ·rename_i kk v jw hvv
      split at hs
      ·rename_i key za yi mr
       split at hs
       ·rename_i z hz
        obtain⟨hb,hk⟩:=bvT hs
        simp only[QQ]at hb
        obtain⟨⟨⟨zi,ve⟩,qk⟩,hva⟩:=hb
        refine Jem hX hr h hw hd zi (x:=.d v z) (fun {β ρ ok a w} h hc=>?_) hk H
        obtain⟨c1,h1,h2⟩:=h.ev hc hm
        have zb:c1=[.map none]:=h2
        subst zb
        have k8:a.eval m=.map none:=h1
        have pd:=Je1 h hc ux yi ve qk
        have ka:=Qr2 (w:=w) hT ku kr xz fb ve key false
        refine⟨Qu tz.z,?_,K4 (M:=[]) (β:=β) (ρ:=ρ) (by simp[Qe]) hz (I7 mr)⟩
        have hvz:(AV.d v z).val (Qu tz.z)=tz.z:=by
         have:=Qs1 (bEq hva)
         grind [AV.val,AV.isAgg,RT.val,Ld]
        unfold execOp
        rw[ko]
        simp only[k8,pd,hvz]
        simp only[JH,if_false]at ka
        simp[ka]
       ·cases hs
      ·cases hs
     ·cases hs
    ·cases hs
   ·cases hs
  ·cases hs
 ·cases hs
end
end Gx

/- Calls. -/
namespace Gx
open Go Go.RowKit Gd
set_option linter.unusedVariables false
set_option linter.unusedSimpArgs false
def Qzq(c:Con)(β:Nat→Nat)(ρ:Nat→Value)(ok:Ok)(L:List Nat)(w:World)(x:c.Γ.De)(y:Qa6 c.Δ)(v:Value)(w':World):Prop :=
 ∃(β':Nat→Nat) (ρ':Nat→Value),agP (c.Γ.mem.map Prod.fst) β β' ρ ρ' ∧
  (∃cs,v=(P4 (Qbu c.Δ y).env).val cs∧cr β' ρ' (Jh (okL L ok) w.heap.size (fun _=>0) [] (Qi β' ρ' ((Qbu c.Δ y).mem++roM c x)) w') w' false (P4 (Qbu c.Δ y).env) cs) ∧
  (∀t∈Qi β' ρ' ((Qbu c.Δ y).mem++roM c x),t.p (Jh (okL L ok) w.heap.size (fun _=>0) [] (Qi β' ρ' ((Qbu c.Δ y).mem++roM c x)) w') w'∧∀g,t.blks g→w.heap.size≤g∨g∈L) ∧
  (Qi β' ρ' ((Qbu c.Δ y).mem++roM c x)).Pairwise fun s t=>∀g,s.blks g→¬ t.blks g
def V1(gl:List (Nat×Σ t:Ty,t.De))(ok:Ok)(w:World):Prop :=
 ∀q∈gl,Qof (rt q.2.1) ok w q.2.2 (.pointer (some ⟨q.1,0,none⟩))∧ok q.1 0∧∃cs t fz,w.heap[q.1]?=some (.cells cs t fz)∧cs.size=q.2.1.size
theorem V1.keep{gl:List (Nat×Σ t:Ty,t.De)}{ok:Ok}{w w':World}(h:V1 gl ok w)(hs:w.heap.size≤w'.heap.size)(hb:∀b o,ok b o→w'.heap[b]?=w.heap[b]?):V1 gl ok w' :=
 fun q hq=>let⟨h1,h2,h3⟩:=h q hq; ⟨h1.evo (Evo.of_blocks hs hb),h2,by rw[hb _ _ h2]; exact h3⟩
theorem V1.weak{gl:List (Nat×Σ t:Ty,t.De)}{ok ok':Ok}{w:World}(h:V1 gl ok w)(hk:∀b o,ok b o→ok' b o):V1 gl ok' w:=fun q hq=>let⟨h1,h2,h3⟩:=h q hq; ⟨h1.weak hk,hk _ _ h2,h3⟩
def okN(X:Cx):Ok:=fun b o=>X.ok b o∧b∉X.lent∧b<X.w.heap.size
theorem P6{gl:List (Nat×Σ t:Ty,t.De)}{X:Cx}{β:Nat→Nat}{G:GL}{D:List DF}{O:List TL}{a:Act}{w:World}(h:Sb β X G D [] O a w)(hG:V1 gl (okN X) X.w):V1 gl (Jh X.ok X.w.heap.size β [] O w) w:=by
 refine(hG.keep h.bel.size fun b o hk=>h.bel.block b hk.2.2 hk.2.1).weak fun b o hk=>⟨.inl hk.1,QC hk.2.2 h.bel.size,by simp,fun t ht hc=>?_⟩
 rcases(h.own t ht).2 b (t.cb hc)with h1 | h1
 ·have:=hk.2.2; omega
 ·exact hk.2.1 h1
def Qe5(P:Program)(gl:List (Nat×Σ t:Ty,t.De))(c:Con):Prop :=
 ∀(ok:Ok) (w:World) (L:List Nat) (β:Nat→Nat) (ρ:Nat→Value) (x:c.Γ.De) (y:Qa6 c.Δ) (vs:List Value),(∀b o,ok b o→b<w.heap.size)→V1 gl ok w→vs.length=c.Γ.env.length→Qle (Qi β ρ (enc c.Γ x).mem) L ok w →
  (∀e∈(enc c.Γ x).env,∃cs,vs[e.t]?=some (e.av.val cs)∧cr β ρ ok w false e.av cs)→c.fn x=some y→Calls P c.f ⟨vs⟩ w (Qvn L w (Qzq c β ρ ok L w x y))
section
variable {β β':Nat→Nat} {ρ ρ':Nat→Value} {ok:Ok} {w:World}
theorem Sx{g:Nat→Nat}:∀{m:Bool} {x:AV} {cs:List Value},(∀i∈Jb x,β' (g i)=β i∧ρ' (g i)=ρ i)→cr β ρ ok w m x cs→cr β' ρ' ok w m (Kw g x) cs
 | m,.d t x,cs,_,h=>by cases m<;>exact h
 | m,.p id path,cs,hn,h=>by
  have:=(hn id (.head _)).1
  cases m<;>(grind [cr,Kw])
 | m,.e id path,cs,hn,h=>by
  have:=(hn id (.head _)).2
  cases m<;>(grind [cr,Kw])
 | m,.s id,cs,hn,h=>by
  have:=(hn id (.head _)).2
  cases m<;>(grind [cr,Kw])
 | m,.m id,cs,hn,h=>by
  have:=(hn id (.head _)).1
  cases m<;>(grind [cr,Kw])
 | m,.b id,cs,hn,h=>by
  have:=(hn id (.head _)).1
  cases m<;>(grind [cr,Kw])
 | m,.w id _ _,cs,hn,h=>by
  have:=(hn id (.head _)).1
  cases m<;>(grind [cr,Kw])
 | m,.a t x,cs,_,h=>by cases m<;>exact h
 | m,.z,cs,_,h=>by cases m<;>exact h
 | m,.ns,cs,_,h=>by cases m<;>exact h
 | m,.np,cs,_,h=>by cases m<;>exact h
 | m,.nm,cs,_,h=>by cases m<;>exact h
 | m,.nf,cs,_,h=>by cases m<;>exact h
 | m,.f fn caps,cs,hn,h=>by cases m<;>exact let⟨vs,h1,h2⟩:=h; ⟨vs,h1,Sx (fun i hi=>hn i (by grind [Jb])) h2⟩
 | m,.ag l,cs,hn,h=>by cases m<;>exact Sx (m:=false) (x:=l) (fun i hi=>hn i (by grind [Jb])) h
 | m,.tp l,cs,hn,h=>by cases m<;>exact let⟨vs,h1,h2⟩:=h; ⟨vs,h1,Sx (fun i hi=>hn i (by grind [Jb])) h2⟩
 | m,.nil,cs,_,h=>by cases m<;>exact h
 | true,.cons x r,cs,hn,h=>by
  obtain⟨c1,vs,h1,h2,h3⟩:=h
  refine⟨c1,vs,?_,Sx (fun i hi=>hn i (by simp[Jb,hi])) h2,Sx (fun i hi=>hn i (by simp[Jb,hi])) h3⟩
  rw[h1]; cases x<;>rfl
 | false,.cons x r,cs,hn,h=>by
  exact let⟨c1,vs,h1,h2,h3⟩:=h; ⟨c1,vs,h1,Sx (fun i hi=>hn i (by simp[Jb,hi])) h2,Sx (fun i hi=>hn i (by simp[Jb,hi])) h3⟩
theorem Jjj(g:Nat→Nat)(x:AV)(cs:List Value):(Kw g x).val cs=x.val cs:=by cases x<;>rfl
theorem Qwc{g:Nat→Nat}:∀{l:List (Nat×Ob)},(∀i∈Jg l,β' (g i)=β i∧ρ' (g i)=ρ i)→Xj (Qi β ρ l) (Qi β' ρ' (K5 g l))
 | [],_=>.nil
 | (id,o)::l,h=>by
  have h1:=h id (by
   cases o with
   | mapC k v xs hole=>cases hole<;>simp[Jg]
   | _=>simp[Jg])
  refine .cons ?_ (Qwc fun i hi=>h i (by
   cases o with
   | mapC k v xs hole=>cases hole<;>simp[Jg,hi]
   | _=>simp[Jg,hi]))
  cases o with
  | var t c =>
   refine⟨fun b=>by grind [Q0,Qou,Qjs],fun b o=>by grind [Q0,Qou,Qjs],fun ok w hp=>?_⟩
   obtain⟨cs,hh,hc⟩:=hp
   exact⟨cs,by rw[h1.1]; exact hh,Sx (fun i hi=>h i (by simp[Jg,hi])) hc⟩
  | row e t xs=>grind [Q0,Qjs,Gk.refl]
  | tail e t xs=>grind [Q0,Qjs,Gk.refl]
  | map k v xs=>grind [Q0,Qjs,Gk.refl]
  | mapC k v xs hole =>
   cases hole with
   | none=>simp_all [Q0,Qjs,Lf,Gk.refl]
   | some q =>
    have h2:=h q.2 (by simp[Jg])
    cases v<;>(grind [Q0,Qjs,Lf,Qys,Gk.refl])
theorem Qtn{l:List (Nat×Ob)}(h:∀i∈Jg l,β' i=β i∧ρ' i=ρ i):Xj (Qi β ρ l) (Qi β' ρ' l):=by
 have:=Qwc (g:=id) (β':=β') (ρ':=ρ') h
 have e:K5 id l=l:=by
  have mz:∀x:AV,Kw id x=x:=by intro x; induction x<;>simp_all [Kw]
  have:∀q:Nat×Ob,(id q.1,Qjs id q.2)=q:=by intro q; obtain⟨i,o⟩:=q; cases o with
   | mapC k v xs hole=>cases hole<;>simp[Qjs]
   | _=>simp[Qjs,mz]
  simp_all [K5,List.map_congr_left]
 rw[e]at this
 exact this
end
theorem P7{c t:Nat}(zk:t≠c):∀M:List (Nat×Ob),Qe (Jx M t) c=Qe M c
 | []=>rfl
 | q::l=>by
  simp only[Jx,Qe]
  cases hb:Nat.beq q.1 t with
  | true =>
   have h1:=Nat.eq_of_beq_eq_true hb
   grind [Nat.beq,absurd,Nat.eq_of_beq_eq_true]
  | false =>
   simp only[cond_false,Qe,P7 zk l]
theorem Zo:∀(ids:List Nat) (M:List (Nat×Ob)),((Jl M ids).2++(Jl M ids).1).Perm M
 | [],M=>by simp[Jl]
 | t::ts,M=>by
  simp only[Jl]
  split
  ·rename_i o ho
   obtain⟨l1,l2,h1,_,h3⟩:=Jv ho
   have:=Zo ts (Jx M t)
   simp only[QA]
   refine(List.Perm.cons _ this).trans ?_
   rw[h3,h1]
   exact List.perm_middle.symm
  ·exact Zo ts M
theorem Sy:∀{ids:List Nat} {M:List (Nat×Ob)} {c:Nat} {o:Ob},ids.Nodup→c∈ids→Qe M c=some o→(c,o)∈(Jl M ids).2
 | t::ts,M,c,o,hn,hc,ho=>by
  have xx:=QT.1 hn
  simp only[Jl]
  rcases QJ.1 hc with rfl | hc
  ·rw[ho]; exact .head _
  ·have zk:t≠c:=fun e=>xx.1 (e▸hc)
   split
   ·exact .tail _ (Sy xx.2 hc (by rw[P7 zk]; exact ho))
   ·exact Sy xx.2 hc ho
theorem S4:∀{ids:List Nat} {M:List (Nat×Ob)},ids.Nodup→∀q∈(Jl M ids).2,q.1∈ids∧Qe M q.1=some q.2
 | [],M,_,q,hq=>by simp[Jl]at hq
 | t::ts,M,hn,q,hq=>by
  have xx:=QT.1 hn
  simp only[Jl]at hq
  split at hq
  ·rename_i o ho
   rcases QJ.1 hq with rfl | hq
   ·grind
   ·obtain⟨h1,h2⟩:=S4 xx.2 q hq
    grind [P7]
  ·obtain⟨h1,h2⟩:=S4 xx.2 q hq
   grind
theorem Qjz:∀{Γe:List (Nat×Sk)} {l:List DV},∀e∈(Dt Γe l).1,e.cs=[]
 | [],l,e,he=>by simp[Dt]at he
 | (t,s)::g,l,e,he=>by
  simp only[Dt]at he
  rcases QJ.1 he with rfl | he
  ·rfl
  ·exact Qjz e he
theorem Nq{ri:List (Nat×Nat)}:∀{Γm:List (Nat×SkO)} {id c:Nat},id∈Γm.map Prod.fst→Jp ri id=some c→c∈J4 ri Γm
 | (k,s)::l,id,c,h,hc=>by
  simp only[J4]
  rcases QJ.1 h with e | h
  ·grind
  ·split
   ·exact .tail _ (Nq h hc)
   ·exact Nq h hc
theorem E2{ri:List (Nat×Nat)}:∀{Γm:List (Nat×SkO)} {c:Nat},c∈J4 ri Γm→∃id∈Γm.map Prod.fst,Jp ri id=some c
 | (k,s)::l,c,h=>by
  simp only[J4]at h
  split at h
  ·rename_i x hx
   rcases QJ.1 h with rfl | h
   ·grind
   ·obtain⟨id,h1,h2⟩:=E2 h; grind
  ·obtain⟨id,h1,h2⟩:=E2 h; grind
theorem Ck{ri:List (Nat×Nat)}:∀{Γm:List (Nat×SkO)} {cs:List Nat},Fj ri Γm cs=true→(J4 ri Γm).Nodup∧∀c∈J4 ri Γm,c∉cs
 | [],_,_=>⟨.nil,by simp[J4]⟩
 | (id,s)::l,cs,h=>by
  simp only[Fj]at h
  simp only[J4]
  split at h
  ·rename_i c hc
   simp only[QQ]at h
   obtain⟨h1,h2⟩:=Ck h.2
   refine⟨QT.2 ⟨fun hm=>h2 c hm (.head _),h1⟩,fun x hx=>?_⟩
   rcases QJ.1 hx with rfl | hx
   ·grind [Z6]
   grind
  ·exact Ck h
theorem Ty.cast_self(t:Ty)(x:t.De):Ty.cast t t x=some x:=by
 simp[Ty.cast,dif_pos,Ty.beq_refl]
theorem P8{M:List (Nat×Ob)}{ri:List (Nat×Nat)}{pr:List Nat}{g:Nat→Nat}(hg:∀i c,Jp ri i=some c→g i=c):∀{sk:Sk} {x:AV} {l:List DV} (rest:List DV),V0 M ri pr sk x=some l→∃y,Lj sk (l++rest)=(y,rest)∧(Qfu sk x=true→Kw g y=x)
 | .d t,x,l,rest,h=>by
  simp only[V0]at h
  split at h
  ·rename_i z0 hz
   obtain⟨_,h⟩:=bvT h
   simp only[Option.some.injEq]at h
   subst h
   refine⟨.d t z0,rfl,fun hs=>?_⟩
   cases x<;>first | (cases hs; done) | skip
   rename_i t' x'
   simp only[asD]at hz
   obtain⟨e,h2⟩:=Ty.cast_ok hz
   subst e; subst h2
   rfl
  ·cases h
 | .p id path,x,l,rest,h=>by
  cases x<;>simp only[V0]at h<;>first | (cases h; done) | skip
  rename_i c path'
  obtain⟨hb,h⟩:=bvT h
  simp only[QQ]at hb
  simp only[Option.some.injEq]at h
  subst h
  exact⟨.p id path,rfl,fun _=>by simp only[Kw]; rw[hg _ _ (Qdz hb.1),Qjv hb.2]⟩
 | .s id,x,l,rest,h=>by
  cases x<;>simp only[V0]at h<;>first | (cases h; done) | skip
  ·rename_i c
   obtain⟨hb,h⟩:=bvT h
   simp only[QQ]at hb
   simp only[Option.some.injEq]at h
   subst h
   exact⟨.s id,rfl,fun _=>by simp only[Kw]; rw[hg _ _ (Qdz hb.1)]⟩
  ·obtain⟨hb,h⟩:=bvT h
   simp only[Option.some.injEq]at h
   subst h
   exact⟨.s id,rfl,fun hs=>by cases hs⟩
 | .m id,x,l,rest,h=>by
  cases x<;>simp only[V0]at h<;>first | (cases h; done) | skip
  rename_i c
  obtain⟨hb,h⟩:=bvT h
  simp only[Option.some.injEq]at h
  subst h
  exact⟨.m id,rfl,fun _=>by simp only[Kw]; rw[hg _ _ (Qdz hb)]⟩
 | .ns,x,l,rest,h=>by
  cases x<;>simp only[V0]at h<;>first | (cases h; done) | skip
  simp only[Option.some.injEq]at h; subst h; exact⟨_,rfl,fun _=>rfl⟩
 | .np,x,l,rest,h=>by
  cases x<;>simp only[V0]at h<;>first | (cases h; done) | skip
  simp only[Option.some.injEq]at h; subst h; exact⟨_,rfl,fun _=>rfl⟩
 | .nm,x,l,rest,h=>by
  cases x<;>simp only[V0]at h<;>first | (cases h; done) | skip
  simp only[Option.some.injEq]at h; subst h; exact⟨_,rfl,fun _=>rfl⟩
 | .nf,x,l,rest,h=>by
  cases x<;>simp only[V0]at h<;>first | (cases h; done) | skip
  simp only[Option.some.injEq]at h; subst h; exact⟨_,rfl,fun _=>rfl⟩
 | .z,x,l,rest,h=>by
  cases x<;>simp only[V0]at h<;>first | (cases h; done) | skip
  simp only[Option.some.injEq]at h; subst h; exact⟨_,rfl,fun _=>rfl⟩
 | .nil,x,l,rest,h=>by
  cases x<;>simp only[V0]at h<;>first | (cases h; done) | skip
  simp only[Option.some.injEq]at h; subst h; exact⟨_,rfl,fun _=>rfl⟩
 | .f fn c,x,l,rest,h=>by
  cases x<;>simp only[V0]at h<;>first | (cases h; done) | skip
  rename_i fn' x'
  obtain⟨hb,h⟩:=bvT h
  simp only[QQ]at hb
  obtain⟨y,h1,h2⟩:=P8 hg rest h
  refine⟨.f fn y,by grind [Lj],fun hs=>?_⟩
  simp only[Kw]
  rw[h2 hs,Nat.eq_of_beq_eq_true hb.1]
 | .ag l',x,l,rest,h=>by
  simp only[V0]at h
  split at h
  ·rename_i y hy
   obtain⟨z0,h1,h2⟩:=P8 hg rest h
   refine⟨.ag z0,by grind [Lj],fun hs=>?_⟩
   cases x<;>first | (cases hs; done) | skip
   simp only[Sq,Option.some.injEq]at hy
   subst hy
   simp only[Kw]
   rw[h2 hs]
  ·cases h
 | .cons a b,x,l,rest,h=>by
  cases x<;>simp only[V0]at h<;>first | (cases h; done) | skip
  split at h
  ·rename_i u v hu hv
   simp only[Option.some.injEq]at h
   subst h
   obtain⟨y1,p1,p2⟩:=P8 hg (v++rest) hu
   obtain⟨y2,q1,q2⟩:=P8 hg rest hv
   simp_all [Lj,List.append_assoc,Qfu,QQ,Kw]
  ·cases h
theorem Je2{M:List (Nat×Ob)}{ri:List (Nat×Nat)}{pr:List Nat}{g:Nat→Nat}(hg:∀i c,Jp ri i=some c→g i=c){s:SkO}{o:Option Ob}{l:List DV}(rest:List DV)(h:P3 M ri pr s o=some l):∃ob',Qbt s (l++rest)=some (ob',rest)∧∀ob,o=some ob→Jky s ob=true→Qjs g ob'=ob:=by
 have cs:∀{t:Ty} {x:t.De},Ty.cast t t x=some x:=fun {t x}=>Ty.cast_self t x
 cases s with
 | var tid c =>
  cases o with
  | none=>cases h
  | some ob =>
   cases ob<;>simp only[P3]at h<;>first | (cases h; done) | skip
   obtain⟨hb,h'⟩:=bvT h
   obtain⟨y,h1,h2⟩:=P8 hg rest h'
   refine⟨.var tid y,by grind [Qbt],fun ob he hs=>?_⟩
   injection he with he; subst he
   simp only[Qjs]
   rw[h2 hs,Nat.eq_of_beq_eq_true hb]
 | row e t =>
  cases o with
  | none =>
   simp only[P3,Option.some.injEq]at h
   subst h
   simp_all [Qbt,QA,QU]
  | some ob =>
   cases ob<;>simp only[P3]at h<;>first | (cases h; done) | skip
   rename_i e' t' xs
   obtain⟨hb,h'⟩:=bvT h
   simp only[QQ]at hb
   have e1:=Nat.eq_of_beq_eq_true hb.1
   have e2:=Ty.beq_eq hb.2
   clear h hb
   subst e1; subst e2
   injection h' with h'
   subst h'
   refine⟨.row e t xs,by grind [Qbt],fun ob he hs=>?_⟩
   injection he
 | tail e t =>
  cases o with
  | none =>
   simp only[P3,Option.some.injEq]at h
   subst h
   simp_all [Qbt,QA,QU]
  | some ob =>
   cases ob<;>simp only[P3]at h<;>first | (cases h; done) | skip
   rename_i e' t' xs
   obtain⟨hb,h'⟩:=bvT h
   simp only[QQ]at hb
   have e1:=Nat.eq_of_beq_eq_true hb.1
   have e2:=Ty.beq_eq hb.2
   clear h hb
   subst e1; subst e2
   injection h' with h'
   subst h'
   refine⟨.tail e t xs,by grind [Qbt],fun ob he hs=>?_⟩
   injection he
 | map k u =>
  cases o with
  | none=>cases h
  | some ob =>
   cases ob<;>simp only[P3]at h<;>first | (cases h; done) | skip
   rename_i k' u' xs
   obtain⟨hb,h'⟩:=bvT h
   simp only[QQ]at hb
   have e1:=Ty.beq_eq hb.1
   have e2:=Ty.beq_eq hb.2
   clear h hb
   subst e1; subst e2
   injection h' with h'
   subst h'
   refine⟨.map k u xs,by grind [Qbt],fun ob he hs=>?_⟩
   injection he
 | mapC k u =>
  cases o with
  | none=>cases h
  | some ob =>
   cases ob<;>simp only[P3]at h<;>first | (cases h; done) | skip
   rename_i k' u' xs hole
   obtain⟨hb,h'⟩:=bvT h
   simp only[QQ]at hb
   have e1:=Ty.beq_eq hb.1.1
   have e2:=CK.beq_eq hb.1.2
   clear h
   subst e1; subst e2
   injection h' with h'
   subst h'
   exact⟨.mapC k u xs none,by grind [Qbt],fun ob he hs=>by cases ob<;>cases hs⟩
theorem Qzr{ro:List Nat}{id:Nat}{s:SkO}{G:List (Nat×SkO)}:rdG ro ((id,s)::G)=bif Yd ro id then(id,s)::rdG ro G else rdG ro G:=by
 grind [rdG,Yd,id]
theorem Je3{ro:List Nat}{id:Nat}{s:Ob}{G:List (Nat×Ob)}:rdM ro ((id,s)::G)=bif Yd ro id then(id,s)::rdM ro G else rdM ro G:=by
 grind [rdM,Yd,id]
theorem Qto{id:Nat}{ob:Ob}:Zm id (some ob)=some (id,ob):=rfl
theorem Qwd{M:List (Nat×Ob)}{ri:List (Nat×Nat)}{pr ro:List Nat}{g:Nat→Nat}(hg:∀i c,Jp ri i=some c→g i=c):∀{Γm:List (Nat×SkO)} {l:List DV},Oh M [] ri pr Γm=some l→Qs7 ri M (rdG ro Γm)=true →
  K5 g (rdM ro (Zv Γm l))=(J4 ri (rdG ro Γm)).filterMap fun t=>Zm t (Qe M t)
 | [],l,h,hs=>by simp only[Oh,Option.some.injEq]at h; subst h; rfl
 | (id,s)::G,l,h,hs=>by
  simp only[Oh]at h
  split at h
  ·rename_i o ho
   split at h
   ·rename_i u v hu hv
    simp only[Option.some.injEq]at h
    subst h
    obtain⟨ob',h1,h2⟩:=Je2 hg v hu
    simp only[Zv,h1]
    rw[Je3,Qzr]
    rw[Qzr]at hs
    cases hm:Yd ro id with
    | false =>
     rw[hm]at hs
     exact Qwd hg hv hs
    | true =>
     rw[hm]at hs
     simp only[cond_true,Qs7,QQ]at hs ⊢
     obtain⟨wy,yp⟩:=hs
     split at wy
     ·rename_i c hc
      split at wy
      ·rename_i ob ui
       have wg:o=some ob:=by
        grind [Q6y,Option.some.injEq]
       have ih:=Qwd hg hv yp
       grind [K5,J4,Qto]
      ·cases wy
     ·cases wy
   ·cases h
  ·cases h
theorem S5{c:Nat}:∀{ts:List Nat} {M:List (Nat×Ob)},c∉ts→Qe (Jl M ts).1 c=Qe M c
 | [],M,_=>rfl
 | t::ts,M,h=>by
  have h1:t≠c:=fun e=>h (e▸.head _)
  have h2:c∉ts:=fun hm=>h (.tail _ hm)
  simp only[Jl]
  split
  ·rw[S5 h2,P7 h1]
  ·exact S5 h2
theorem Jn1{α β:Type}{f g:α→Option β}:∀{l:List α},(∀x∈l,f x=g x)→l.filterMap f=l.filterMap g
 | [],_=>rfl
 | x::l,h=>by
  simp only[JU]
  rw[h x (.head _),Jn1 fun y hy=>h y (.tail _ hy)]
theorem On:∀{ids:List Nat} {M:List (Nat×Ob)},ids.Nodup→(Jl M ids).2=ids.filterMap fun t=>Zm t (Qe M t)
 | [],M,_=>rfl
 | t::ts,M,hn=>by
  have xx:=QT.1 hn
  simp only[Jl]
  split
  ·rename_i o ho
   simp only[JU,ho,Qto]
   rw[On xx.2]
   refine congrArg _ (Jn1 fun x hx=>?_)
   rw[P7 (c:=x) (t:=t) fun e=>xx.1 (by rw[e]; exact hx)]
  ·rename_i ho
   simp only[JU,ho,Zm]
   exact On xx.2
theorem Qby{ri:List (Nat×Nat)}:∀{l:List (Nat×SkO)} {cs cs':List Nat},(∀x∈cs',x∈cs)→Fj ri l cs=true→Fj ri l cs'=true
 | [],cs,cs',_,_=>rfl
 | (id,s)::l,cs,cs',hc,h=>by
  simp only[Fj]at h ⊢
  split at h
  ·rename_i c yc
   simp only[QQ]at h ⊢
   refine⟨?_,Qby (fun x hx=>?_) h.2⟩
   ·grind [Yd,Z6]
   grind
  ·exact Qby hc h
theorem Xs{ri:List (Nat×Nat)}{p:Nat×SkO→Bool}:∀{l:List (Nat×SkO)} {cs:List Nat},Fj ri l cs=true→Fj ri (l.filter p) cs=true
 | [],cs,_=>rfl
 | (id,s)::l,cs,h=>by
  simp only[Fj]at h
  cases hp:p (id,s)with
  | true =>
   rw[XF,if_pos hp]
   simp only[Fj]
   split at h
   ·rename_i c yc
    simp only[QQ]at h ⊢
    exact⟨h.1,Xs h.2⟩
   ·exact Xs h
  | false =>
   rw[XF,if_neg (by rw[hp]; simp)]
   split at h
   ·simp only[QQ]at h
    exact Xs (Qby (fun x hx=>.tail _ hx) h.2)
   ·exact Xs h
theorem Qpt:∀{l:List (Nat×Ob)} {i:Nat},i∈Jg l↔∃q∈l,i∈Jg [q]
 | [],i=>by simp[Jg]
 | q::l,i=>by
  have ih:=Qpt (l:=l) (i:=i)
  have h:Jg (q::l)=Jg [q]++Jg l:=by
   obtain⟨k,o⟩:=q
   cases o with
   | mapC k1 v xs hole=>cases hole<;>simp[Jg]
   | _=>simp[Jg]
  rw[h,QX,ih]
  grind
theorem Jaj{l m:List (Nat×Ob)}(h:∀q∈l,q∈m){i:Nat}(hi:i∈Jg l):i∈Jg m:=let⟨q,h1,h2⟩:=Qpt.1 hi; Qpt.2 ⟨q,h q h1,h2⟩
theorem Jak{l m:List Nat}(h:Wt l m=true){i:Nat}(hi:i∈m):i∈l:=by
 induction m with
 | nil=>cases hi
 | cons x m ih =>
  simp only[Wt,QQ]at h
  rcases QJ.1 hi with rfl | hi
  ·exact Z6.1 h.1
  ·exact ih h.2 hi
theorem Jpk{M:List (Nat×Ob)}{c:Nat}(h:c∈Y6 M):∃ob,Qe M c=some ob:=by
 induction M with
 | nil=>cases h
 | cons q l ih =>
  simp only[Qe]
  cases hb:Nat.beq q.1 c with
  | true=>exact⟨_,rfl⟩
  | false =>
   simp only[cond_false]
   refine ih ?_
   rcases QJ.1 h with e | h
   ·rw[e,Nat.beq_refl]at hb; cases hb
   ·exact h
theorem Qpu{l m:List (Nat×Ob)}{c:Nat}(h:Qe l c=none):Qe (l++m) c=Qe m c:=by
 induction l with
 | nil=>rfl
 | cons q l ih =>
  grind [Qe,Nat.beq]
theorem Qhy{ks:List Nat}:∀{M:List (Nat×Ob)},Y6 (Va ks M)=Y6 M
 | []=>rfl
 | (id,o)::l=>by
  cases o<;>simp only[Va,Y6,QP]<;>rw[show(Va ks l).map Prod.fst=l.map Prod.fst from Qhy]
  cases(Yd ks id&&Nat.ble 1 _)<;>rfl
theorem Qtp{ri:List (Nat×Nat)}{M:List (Nat×Ob)}:∀{l:List (Nat×SkO)},Qs7 ri M l=true→∀id∈l.map Prod.fst,∃cc,Jp ri id=some cc
 | (i,s)::l,h,id,hid=>by
  simp only[Qs7,QQ]at h
  rcases QJ.1 hid with e | hid
  ·grind
  ·exact Qtp h.2 id hid
def Qzs(β:Nat→Nat)(ρ:Nat→Value):Nat×Ob→List Nat
 | (id,.var _ _)=>[β id]
 | (id,.map _ _ _)=>[β id]
 | (id,.mapC _ _ _ _)=>β id::(Sn (ρ id)).flatMap fun v=>(Z5 v).toList
 | (id,_)=>Jnk (ρ id)
theorem Je4{β:Nat→Nat}{ρ:Nat→Value}{q:Nat×Ob}{g:Nat}:g∈Qzs β ρ q↔(Q0 β ρ q.1 q.2).blks g:=by
 obtain⟨id,o⟩:=q
 cases o with
 | var t c=>simp[Qzs,Q0,Qou]
 | row e t xs=>simp[Qzs,Qyo,Q0,ml]
 | tail e t xs=>simp[Qzs,Qyo,Q0,Qbl]
 | map k v xs=>simp[Qzs,Q0,Qhc]
 | mapC k v xs hole=>simp only[Qzs,Q0,Jdy,QJ,List.mem_flatMap,Option.mem_toList,Option.mem_def]
def Qny:Ob→Bool
 | .tail _ _ _=>true
 | _=>false
theorem Qzt{β:Nat→Nat}{ρ:Nat→Value}{id:Nat}{o:Ob}(h:Qny o=false){b:Nat}(f:Nat)(hb:(Q0 β ρ id o).blks b):(Q0 β ρ id o).cov b f:=by
 cases o with
 | tail e t xs=>cases h
 | var t c=>exact hb
 | row e t xs=>exact hb
 | map k v xs=>exact hb
 | mapC k v xs hole=>exact hb
theorem Qlq{M F:List (Nat×Ob)}{ri:List (Nat×Nat)}{pr:List Nat}:∀{Γm:List (Nat×SkO)} {l:List DV},Qjt Γm=true→Oh M F ri pr Γm=some l→∀q∈Γm,∀c ob,Jp ri q.1=some c→Qe M c=some ob→Qny ob=false
 | (id,s)::g,l,hn,h,q,hq,c,ob,hc,ui=>by
  simp only[Oh]at h
  split at h
  ·rename_i o ho
   split at h
   ·rename_i u v hu hv
    have xx:Qjt g=true:=by cases s<;>simp_all [Qjt]
    rcases QJ.1 hq with rfl | hq
    ·simp only[Q6y,hc,ui]at ho
     simp at ho; subst ho
     cases s<;>cases ob<;>simp_all [P3,Qjt,Qny]
    ·exact Qlq xx hv q hq c ob hc ui
   ·cases h
  ·cases h
section
variable {P:Program} {Y:TX} {X:Cx} {S:XS} {β β':Nat→Nat} {ρ ρ':Nat→Value} {a a':Act} {w w':World} {n:Nat}
variable {ops:Array Oper} {Q:Exit→Act→World→Prop} {rest:List Oper} {R:Type} {k:XS→Option R} {r:R}
theorem Q7a(h:Rel X β ρ S.flat a w):∀{xs:List Operand} {i:Nat} {es:List En} (pre:List Value),pre.length=i→Qy9 S xs i=some es →
  es.length=xs.length∧∀e∈es,(enD β ρ ⟨(pre++xs.map a.eval).toArray,[]⟩ e).p (okR X β ρ S.flat.mem w) w
 | [],i,es,pre,_,he=>by simp[Qy9]at he; subst he; exact⟨rfl,by simp⟩
 | x::xs,i,es,pre,hi,he=>by
  simp only[Qy9]at he
  split at he
  ·rename_i v r hv hr
   obtain⟨uw,he⟩:=bvT he
   simp at he; subst he
   obtain⟨cs,h1,h2⟩:=h.ev (Qd a) hv
   obtain⟨h3,h4⟩:=Q7a h (xs:=xs) (i:=i+1) (pre++[a.eval x]) (by simp[hi]) hr
   refine⟨by simp[h3],fun e hm=>?_⟩
   have hl:pre++[a.eval x]++xs.map a.eval=pre++(x::xs).map a.eval:=by simp
   rw[hl]at h4
   rcases QJ.1 hm with rfl | hm
   ·refine⟨fun _=>⟨cs,?_,h2⟩,.inl (Qd _)⟩
    rw[Nm uw]
    grind
   ·exact h4 e hm
  ·cases he
theorem Q7b{S:XS}:∀{xs:List Operand} {i:Nat} {es:List En},Qy9 S xs i=some es→∀e∈es,e.cs=[]
 | [],i,es,he=>by grind [Qy9]
 | x::xs,i,es,he=>by
  simp only[Qy9]at he
  split at he
  ·rename_i v r hv hr
   obtain⟨_,he⟩:=bvT he
   simp at he; subst he
   intro e hm
   rcases QJ.1 hm with rfl | hm
   ·rfl
   ·exact Q7b hr e hm
  ·cases he
theorem Q7c{ok:Ok}{w:World}:∀{x:AV} {i:Nat} {cs:List En} {vs:List Value} (pre:List Value),pre.length=i→Jed x i=some cs→cr β ρ ok w true x vs →
  cs.length=vs.length∧(∀e∈cs,e.cs=[])∧∀e∈cs,(enD β ρ ⟨(pre++vs).toArray,[]⟩ e).p ok w
 | .nil,i,cs,vs,pre,_,he,h=>by
  simp[Jed]at he; subst he
  have:vs=[]:=h
  grind
 | .cons y r,i,cs,vs,pre,hi,he,h=>by
  simp only[Jed]at he
  split at he
  ·rename_i l hl
   obtain⟨uw,he⟩:=bvT he
   simp at he; subst he
   obtain⟨c1,vs',rfl,h1,h2⟩:=h
   obtain⟨h3,h4,h5⟩:=Q7c (pre++[y.val c1]) (by simp[hi]) hl h2
   refine⟨by simp[h3],fun e hm=>?_,fun e hm=>?_⟩
   ·grind
   ·rcases QJ.1 hm with rfl | hm
    ·refine⟨fun _=>⟨c1,?_,h1⟩,.inl (Qd _)⟩
     rw[Nm uw]
     grind
    grind
  ·cases he
theorem Jn2{ok:Ok}{w:World}{l post:List Value}{e:En}(hc:e.cs=[])(h:(enD β ρ ⟨l.toArray,[]⟩ e).p ok w):(enD β ρ ⟨(l++post).toArray,[]⟩ e).p ok w:=by
 obtain⟨cs,h1,h2⟩:=h.1 (by rw[hc]; exact Qd _)
 refine⟨fun _=>⟨cs,?_,h2⟩,.inl (by rw[hc]; exact Qd _)⟩
 unfold rd at h1 ⊢
 grind
theorem Qzu{ri:List (Nat×Nat)}{d:Nat}{Γk:List Nat}{S:XS}{M:List (Nat×Ob)}:∀{l:List Nat},Q61 ri d Γk S M l=true→∀j∈l,(∃c,Jp ri j=some c∧Ji ri d j=c∧j∈Γk) ∨
  (Jp ri j=none∧J7 (Ji ri d j) M=true∧J7 (Ji ri d j) S.fixM=true∧Qhp (Ji ri d j) S.fix=true∧Qhp (Ji ri d j) S.env=true∧Yd S.prot (Ji ri d j)=false∧j∉Γk)
 | i::l,h,j,hj=>by
  simp only[Q61,QQ]at h
  rcases QJ.1 hj with rfl | hj
  ·have h1:=h.1
   cases hl:Jp ri j with
   | some c =>
    rw[hl]at h1
    simp only[Ht,cond_true]at h1
    exact .inl ⟨c,rfl,by simp only[Ji,hl],Z6.1 h1⟩
   | none =>
    rw[hl]at h1
    simp only[Ht,cond_false,QQ]at h1
    obtain⟨⟨⟨⟨⟨a1,a2⟩,a3⟩,a4⟩,a5⟩,a6⟩:=h1
    refine .inr ⟨rfl,a1,a2,a3,a4,by simpa using a5,fun hm=>?_⟩
    rw[Z6.2 hm]at a6; cases a6
  ·exact Qzu h.2 j hj
theorem E3{ks:List Nat}:∀{l:List Nat},Wt ks l=true→∀i∈l,i∈ks
 | x::l,h,i,hi=>by
  simp only[Wt,QQ]at h
  rcases QJ.1 hi with rfl | hi
  ·exact Z6.1 h.1
  ·exact E3 h.2 i hi
theorem P9:∀{l:List Nat},Lk l=true→l.Nodup
 | [],_=>.nil
 | x::l,h=>by
  simp only[Lk,QQ]at h
  refine QT.2 ⟨fun hm=>?_,P9 h.2⟩
  have:=h.1
  rw[Z6.2 hm]at this; cases this
def backB(g:Nat→Nat)(ks:List Nat)(β2 β:Nat→Nat):Nat→Nat:=fun i=>match ks.find? fun j=>g j==i with
 | some j=>β2 j
 | none=>β i
def Lq(g:Nat→Nat)(ks:List Nat)(ρ2 ρ:Nat→Value):Nat→Value:=fun i=>match ks.find? fun j=>g j==i with
 | some j=>ρ2 j
 | none=>ρ i
theorem Qzv{g:Nat→Nat}:∀{ks:List Nat},(ks.map g).Nodup→∀j∈ks,(ks.find? fun i=>g i==g j)=some j
 | x::l,hn,j,hj=>by
  have xx:=QT.1 (by simpa using hn:(g x::l.map g).Nodup)
  rcases QJ.1 hj with rfl | hj
  ·simp
  ·have zk:g x≠g j:=fun e=>xx.1 (by rw[e]; grind)
   have:(g x==g j)=false:=by simpa using zk
   simp only[List.find?_cons,this]
   exact Qzv xx.2 j hj
theorem Qzw{l:List En}{e:En}(he:e∈l){i:Nat}(hi:i∈Jb e.av):i∈Oi l:=by
 induction l with
 | nil=>cases he
 | cons x l ih =>
  simp only[Oi,QX]
  grind
theorem Lr{d:Nat}:∀{x:AV},Uz d x=true→d∉Jb x
 | .p id _,h=>by grind [id,Jb,Uz,Nat.beq_refl]
 | .e id _,h=>by grind [id,Jb,Uz,Nat.beq_refl]
 | .s id,h=>by grind [id,Jb,Uz,Nat.beq_refl]
 | .m id,h=>by grind [id,Jb,Uz,Nat.beq_refl]
 | .b id,h=>by grind [id,Jb,Uz,Nat.beq_refl]
 | .w id _ _,h=>by grind [id,Jb,Uz,Nat.beq_refl]
 | .f _ c,h=>by simp only[Uz]at h; simpa[Jb]using Lr h
 | .ag l,h=>by simp only[Uz]at h; simpa[Jb]using Lr h
 | .tp l,h=>by simp only[Uz]at h; simpa[Jb]using Lr h
 | .cons x r,h=>by
  simp only[Uz,QQ]at h
  simp only[Jb,QX,not_or]
  exact⟨Lr h.1,Lr h.2⟩
 | .d _ _,_=>by simp[Jb]
 | .a _ _,_=>by simp[Jb]
 | .z,_=>by simp[Jb]
 | .ns,_=>by simp[Jb]
 | .np,_=>by simp[Jb]
 | .nm,_=>by simp[Jb]
 | .nf,_=>by simp[Jb]
 | .nil,_=>by simp[Jb]
theorem Qpv{d:Nat}:∀{M:List (Nat×Ob)},J7 d M=true→d∉Jg M
 | [],_=>by simp[Jg]
 | (k,o)::l,h=>by
  have hq:=Bu h (k,o) (.head _)
  have hl:J7 d l=true:=by
   cases o with
   | mapC k1 v xs hole=>cases hole<;>simp only[J7,QQ]at h<;>exact h.2
   | _=>simp_all [J7,QQ]
  have ih:=Qpv hl
  cases o with
  | var t c =>
   have:=Lr hq.2
   simp only[Jg,QJ,QX,not_or]
   grind
  | mapC k1 v xs hole =>
   cases hole with
   | none =>
    simp only[Jg,QJ,not_or]
    grind
   | some q =>
    simp only[Jg,QJ,not_or]
    exact⟨fun e=>hq.1 e.symm,fun e=>hq.2 e.symm,ih⟩
  | _ =>
   simp only[Jg,QJ,not_or]
   grind
theorem Qzx{β:Nat→Nat}{ρ:Nat→Value}{ok:Ok}{w:World}:∀{es:List En} {vs:List Value} {i:Nat},(∀(j:Nat) e,es[j]?=some e→∃cs,vs[j]?=some (e.av.val cs)∧cr β ρ ok w false e.av cs)→vs.length=es.length→cr β ρ ok w true (Qs8 es) vs
 | [],vs,i,_,hl=>QE (by simpa using hl)
 | e::es,[],i,_,hl=>by simp at hl
 | e::es,v::vs,i,h,hl=>by
  obtain⟨cs,h1,h2⟩:=h 0 e rfl
  have k8:v=e.av.val cs:=by simpa using h1
  exact⟨cs,vs,by rw[k8],h2,Qzx (i:=i) (fun j e' he=>by simpa using h (j+1) e' (by simpa using he)) (by simpa using hl)⟩
theorem Qpw:∀(es:List En),Jb (Qs8 es)=Oi es
 | []=>rfl
 | e::es=>by simp only[Qs8,Jb,Oi,Qpw es]
theorem Jal(es:List En):∀i∈Jb (P4 es),i∈Oi es:=by
 intro i hi
 unfold P4 at hi
 grind [Oi,Jb,Qpw]
theorem Qlr(hX:X.n=n)(hr:X.res=[])(h:Rel X β ρ S.flat a w){o:Oper}(hw:Region.wanted o (yielded ops a.tmps)=true){c:Con}(hc:Qe5 P Y.gl c)(hG:V1 Y.gl (okN X) X.w)(ka:Runs P c.f)(hs:Zl n c o S k=some r)(H:KOk P ops Q rest X S β ρ k r) :
  wpList P ops Q (o::rest) a w:=by
 unfold Zl at hs
 split at hs
 ·rename_i x0 xs ts d ko hd
  split at hs
  ·rename_i f caps n0
   have hb:=(bvT hs).1
   replace hs:=(bvT hs).2
   simp only[QQ]at hb
   have hf:=Nat.eq_of_beq_eq_true hb.1
   obtain⟨hd1,qz⟩:=Vb hb.2 hX hr
   split at hs
   ·rename_i es0 cs0 hes0 hcs0
    obtain⟨cf,hf1,vc,hf2,hf3⟩:=h.ev (Qd a) n0
    subst hf2
    replace hf1:a.eval x0=.func (.func f) #[] vc.toArray:=hf1
    obtain⟨el0,hE00⟩:=Q7a h [] rfl hes0
    simp only[QU]at hE00
    obtain⟨el1,_,hE01⟩:=Q7c (xs.map a.eval) (by simp) hcs0 hf3
    have el:(es0++cs0).length=(xs.map a.eval++vc).length:=by simp[el0,el1]
    have hE0:∀e∈es0++cs0,(enD β ρ ⟨(xs.map a.eval++vc).toArray,[]⟩ e).p (okR X β ρ S.flat.mem w) w:=by
     grind [Jn2,Q7b]
    generalize es0++cs0=es at *
    generalize hri:Jkx c.Γ ⟨es,S.mem++S.fixM⟩=ri at hs
    unfold Zl.callE at hs
    split at hs
    ·rename_i x hx
     have z8:=(bvT hs).1
     replace hs:=(bvT hs).2
     simp only[QQ]at z8
     obtain⟨⟨⟨hb2n,hb2l⟩,hb2m⟩,ej⟩:=z8
     have hlen:=Nat.eq_of_beq_eq_true hb2l
     obtain⟨y,hy,hs⟩:=Yj hs
     rw[Qnx]at hs
     unfold Zl.callR at hs
     have ak:=(bvT hs).1
     replace hs:=(bvT hs).2
     simp only[QQ]at ak
     obtain⟨⟨⟨n1,n2⟩,n3⟩,n4⟩:=ak
     have h1:Rel X β ρ ⟨S.env++S.fix,frz c.Γ ri es S.mem++S.fixM⟩ a w:=by
      have:=Rel.freeze S.mem (l0:=[]) (F:=S.fixM) (ks:=Jea es c.Γ.env++Qv1 S.mem ri c.Γ.mem) h
      simp only[QU]at this
      exact this
     have hM:∀id o,Qe ((frz c.Γ ri es S.mem++S.fixM)++[]) id=some o→(Q0 β ρ id o).p (okR X β ρ (frz c.Γ ri es S.mem++S.fixM) w) w:=fun id o ho=>h1.mm id o (by rw[QH]at ho; exact ho)
     unfold Ji7 at hx
     obtain⟨hbx,hx⟩:=bvT hx
     simp only[QQ]at hbx
     obtain⟨⟨⟨b1,b2⟩,b3⟩,b4⟩:=hbx
     split at hx
     ·rename_i u v hu hv
      have xm:=Qv7 hx
      have hokk:∀b f,okR X β ρ S.flat.mem w b f→okR X β ρ (frz c.Γ ri es S.mem++S.fixM) w b f:=by
       rintro b f ⟨o1,o2,o3,o4⟩
       refine⟨o1,o2,o3,fun t' k9 wm=>?_⟩
       obtain⟨q,hq,rfl⟩:=QZ.1 k9
       have key:∀{l:List (Nat×Ob)} {ks:List Nat} {q:Nat×Ob},q∈Va ks l→∃o',(q.1,o')∈l∧∀b f,(Q0 β ρ q.1 q.2).cov b f→(Q0 β ρ q.1 o').cov b f:=by
        intro l
        induction l with
        | nil=>intro ks q hq; cases hq
        | cons p l ih =>
         intro ks q hq
         obtain⟨id,ob⟩:=p
         have other:q∈Va ks l→∃o',(q.1,o')∈(id,ob)::l∧∀b f,(Q0 β ρ q.1 q.2).cov b f→(Q0 β ρ q.1 o').cov b f:=fun hq=>let⟨o',p1,p2⟩:=ih hq; ⟨o',.tail _ p1,p2⟩
         cases ob with
         | row e t xs =>
          simp only[Va]at hq
          rcases QJ.1 hq with e' | hq
          ·cases ue:(Yd ks id&&Nat.ble 1 t.size)with
           | true =>
            rw[ue]at e'; subst e'
            exact⟨.row e t xs,.head _,fun b f wm=>wm.1⟩
           | false =>
            rw[ue]at e'; grind
          ·exact other hq
         | var t' c' =>
          grind [Va]
         | tail e t xs =>
          grind [Va]
         | map k' v' xs =>
          grind [Va]
         | mapC k' v' xs hole =>
          grind [Va]
       rcases QX.1 hq with hq | hq
       ·obtain⟨o',p1,p2⟩:=key hq
        exact o4 _ (QZ.2 ⟨(q.1,o'),List.mem_append_left _ p1,rfl⟩) (p2 b f wm)
       ·exact o4 _ (QZ.2 ⟨q,List.mem_append_right _ hq,rfl⟩) wm
      obtain⟨es',e1,e2⟩:=Qjw hM (fun e he=>(enD β ρ _ e).weak (hE0 e he) hokk) v hu
      obtain⟨m1,m2⟩:=Qjx hM b3 hv
      have uj:enc c.Γ x=⟨es',Zv c.Γ.mem v⟩:=by grind [enc]
      have hkind:=Qlq hb2n hv
      obtain⟨ln1,_⟩:=Ck (Xs (p:=fun q=>!Yd c.ro q.1) b1)
      obtain⟨ln2,_⟩:=Ck (Xs (p:=fun q=>Yd c.ro q.1) b1)
      have hroS:=Qwd (g:=Ji ri d) (ro:=c.ro) (fun i cc yc=>by grind [Ji]) hv ej
      have hkM:∀cc∈Y6 S.mem,∃ob,Qe (frz c.Γ ri es S.mem) cc=some ob:=fun cc yc=>Jpk (by grind [frz,Qhy])
      generalize hM0:frz c.Γ ri es S.mem=M0 at *
      have hwk:∀(p:Nat×SkO→Bool) id,id∈(c.Γ.mem.filter p).map Prod.fst→id∈c.Γ.mem.map Prod.fst:=fun p id hid=>by
       grind
      have ek:∀cc∈J4 ri (rdG c.ro c.Γ.mem),cc∉J4 ri (wrG c.ro c.Γ.mem):=fun cc h1 h2=>by
       obtain⟨i1,p1,p2⟩:=E2 h1
       obtain⟨i2,r1,r2⟩:=E2 h2
       obtain⟨q1,s1,rfl⟩:=QZ.1 p1
       obtain⟨q2,s2,rfl⟩:=QZ.1 r1
       have t1:=(QI.1 s1).2
       have t2:=(QI.1 s2).2
       have k1:q1.1∈(Zv c.Γ.mem v).map Prod.fst:=by rw[m1]; exact QZ.2 ⟨_,(QI.1 s1).1,rfl⟩
       have k2:q2.1∈(Zv c.Γ.mem v).map Prod.fst:=by rw[m1]; exact QZ.2 ⟨_,(QI.1 s2).1,rfl⟩
       obtain⟨e1,f1,g1⟩:=QZ.1 k1
       obtain⟨e2,f2,g2⟩:=QZ.1 k2
       obtain⟨pw,_⟩:=P5 b1 m1
       have zk:q1.1≠q2.1:=fun e=>by rw[e]at t1; rw[t1]at t2; cases t2
       have key:∀{l:List (Nat×Ob)},(l.Pairwise fun q q'=>∀c c',Jp ri q.1=some c→Jp ri q'.1=some c'→c≠c')→e1∈l→e2∈l→False:=by
        intro l hl
        induction l with
        | nil=>intro h; cases h
        | cons z l ih =>
         have mf:=List.pairwise_cons.1 hl
         grind
       grind
      have hp1:=Zo (J4 ri (wrG c.ro c.Γ.mem)) M0
      have sg:=Zo (J4 ri (rdG c.ro c.Γ.mem)) ((Jl M0 (J4 ri (wrG c.ro c.Γ.mem))).1++S.fixM)
      have lq:∀cc∈J4 ri (rdG c.ro c.Γ.mem),Qe ((Jl M0 (J4 ri (wrG c.ro c.Γ.mem))).1++S.fixM) cc=Qe (M0++S.fixM) cc:=fun cc yc=>by
       have e:=S5 (M:=M0) (ek cc yc)
       cases hl:Qe M0 cc with
       | none=>rw[Qpu hl,Qpu (e.trans hl)]
       | some ob=>rw[Q4 hl,Q4 (e.trans hl)]
      have hlkN:∀cc∈J4 ri (wrG c.ro c.Γ.mem),∀ob,Qe (M0++S.fixM) cc=some ob→Qe M0 cc=some ob:=fun cc yc ob ui=>by
       obtain⟨ob',ep⟩:=hkM cc (Jak hb2m yc)
       rw[Q4 ep]at ui
       rw[ep,ui]
      have hsR:=On (M:=(Jl M0 (J4 ri (wrG c.ro c.Γ.mem))).1++S.fixM) ln2
      have hroE:K5 (Ji ri d) (rdM c.ro (Zv c.Γ.mem v))=(Jl ((Jl M0 (J4 ri (wrG c.ro c.Γ.mem))).1++S.fixM) (J4 ri (rdG c.ro c.Γ.mem))).2:=by
       refine hroS.trans ?_
       refine(Jn1 fun x hx=>?_).trans hsR.symm
       rw[lq x hx]
      obtain⟨Ml,hMl0⟩:∃Ml,Ml=(Jl M0 (J4 ri (wrG c.ro c.Γ.mem))).2++(Jl ((Jl M0 (J4 ri (wrG c.ro c.Γ.mem))).1++S.fixM) (J4 ri (rdG c.ro c.Γ.mem))).2:=⟨_,rfl⟩
      have hF1:∀q∈Ml,∃id∈c.Γ.mem.map Prod.fst,Jp ri id=some q.1∧Qe (M0++S.fixM) q.1=some q.2:=fun q hq=>by
       rw[hMl0]at hq
       rcases QX.1 hq with hq | hq
       ·obtain⟨p1,p2⟩:=S4 ln1 q hq
        grind [id,E2,Q4]
       ·obtain⟨p1,p2⟩:=S4 ln2 q hq
        obtain⟨id,p3,p4⟩:=E2 p1
        exact⟨id,hwk _ id p3,p4,by rw[←lq _ p1]; exact p2⟩
      have hMl:∀id∈c.Γ.mem.map Prod.fst,∀cc ob,Jp ri id=some cc→Qe (M0++S.fixM) cc=some ob→(cc,ob)∈Ml:=by
       intro id hid cc ob e3 e4
       rw[hMl0]
       obtain⟨q,hq,rfl⟩:=QZ.1 hid
       cases hm:Yd c.ro q.1 with
       | true =>
        have vd:cc∈J4 ri (rdG c.ro c.Γ.mem):=Nq (QZ.2 ⟨q,QI.2 ⟨hq,hm⟩,rfl⟩) e3
        exact List.mem_append_right _ (Sy ln2 vd (by rw[lq _ vd]; exact e4))
       | false =>
        have vd:cc∈J4 ri (wrG c.ro c.Γ.mem):=Nq (QZ.2 ⟨q,QI.2 ⟨hq,by rw[hm]; rfl⟩,rfl⟩) e3
        exact List.mem_append_left _ (Sy ln1 vd (hlkN _ vd _ e4))
      generalize hMn0:(Jl M0 (J4 ri (wrG c.ro c.Γ.mem))).2=Mn at *
      generalize hMr0:(Jl M0 (J4 ri (wrG c.ro c.Γ.mem))).1=Mr0 at *
      generalize hMo0:(Jl (Mr0++S.fixM) (J4 ri (rdG c.ro c.Γ.mem))).2=Mo at *
      generalize hMr1:(Jl (Mr0++S.fixM) (J4 ri (rdG c.ro c.Γ.mem))).1=Mr at *
      have ru:(Ml++Mr).Perm (M0++S.fixM):=by
       rw[hMl0,List.append_assoc]
       refine(List.Perm.append_left Mn sg).trans ?_
       rw[←List.append_assoc]
       exact hp1.append_right _
      have h2:Sb (fun _=>0) X [] ((S.env++S.fix).map (enD β ρ a)) [] (Qi β ρ Ml++Qi β ρ Mr) a w:=by
       refine Sb.perm h1 ?_
       rw[←QB]
       exact List.Perm.map _ ru.symm
      have hok2:∀b f,okR X β ρ (M0++S.fixM) w b f→Jh X.ok X.w.heap.size (fun _=>0) [] (Qi β ρ Ml++Qi β ρ Mr) w b f:=by
       rintro b f ⟨o1,o2,o3,o4⟩
       refine⟨o1,o2,o3,fun t' k9=>?_⟩
       grind
      have qi:∀q∈Zv c.Γ.mem v,q.1∈c.Γ.mem.map Prod.fst:=by
       grind
      have yg:∀q∈Zv c.Γ.mem v,(∃cc ob,Jp ri q.1=some cc∧(cc,ob)∈Ml∧Qny ob=false∧(∀g,(Q0 (Hj ri β) (G7 ri [] ρ) q.1 q.2).blks g→(Q0 β ρ cc ob).blks g))∨(∀g,¬ (Q0 (Hj ri β) (G7 ri [] ρ) q.1 q.2).blks g):=by
       intro q hq
       rcases m2 q hq with⟨cc,ob,e3,e4,e5,_⟩ | ⟨_,e5,_⟩
       ·have hid:=qi q hq
        grind
       ·exact .inr e5
      have hLm:∀g,g∈(Zv c.Γ.mem v).flatMap (Qzs (Hj ri β) (G7 ri [] ρ))↔∃q∈Zv c.Γ.mem v,(Q0 (Hj ri β) (G7 ri [] ρ) q.1 q.2).blks g:=by
       grind [Je4]
      generalize hL:(Zv c.Γ.mem v).flatMap (Qzs (Hj ri β) (G7 ri [] ρ))=L at hLm
      have hLends:Qle (Qi (Hj ri β) (G7 ri [] ρ) (enc c.Γ x).mem) L (Jh X.ok X.w.heap.size (fun _=>0) [] (Qi β ρ Ml++Qi β ρ Mr) w) w:=by
       rw[uj]
       refine⟨fun t ht=>?_,?_,fun g hg=>?_⟩
       ·obtain⟨q,hq,rfl⟩:=QZ.1 ht
        refine⟨?_,fun g hg=>(hLm g).2 ⟨q,hq,hg⟩,fun g f hg kn=>?_⟩
        ·rcases m2 q hq with⟨_,_,_,_,_,_,e6⟩ | ⟨_,_,e6⟩
         ·exact(Q0 _ _ q.1 q.2).weak e6 hok2
         ·exact e6 _ _
        ·rcases yg q hq with⟨cc,ob,_,e4,e5,e6⟩ | e6
         ·exact kn.2.2.2 _ (List.mem_append_left _ (QZ.2 ⟨_,e4,rfl⟩)) (Qzt e5 f (e6 g hg))
         ·exact e6 g hg
       ·obtain⟨p1,_⟩:=P5 b1 m1
        show((Zv c.Γ.mem v).map _).Pairwise _
        rw[JB]
        refine List.Pairwise.imp_of_mem ?_ p1
        intro q q' hq vu zk g hg yb
        rcases m2 q hq with⟨cc,ob,e3,e4,e5,_⟩ | ⟨_,e5,_⟩
        ·rcases m2 q' vu with⟨cc',ob',e3',e4',e5',_⟩ | ⟨_,e5',_⟩
         ·exact h1.disj e4 e4' (zk cc cc' e3 e3') g (e5 g hg) (e5' g yb)
         ·exact e5' g yb
        ·exact e5 g hg
       grind
      have zq:∀e∈(enc c.Γ x).env,∃cs,(xs.map a.eval++vc)[e.t]?=some (e.av.val cs)∧cr (Hj ri β) (G7 ri [] ρ) (Jh X.ok X.w.heap.size (fun _=>0) [] (Qi β ρ Ml++Qi β ρ Mr) w) w false e.av cs:=by
       intro e he
       rw[uj]at he
       have zx:e.cs=[]:=by
        have:=Qjz (Γe:=c.Γ.env) (l:=u++v) e (by rw[e1]; exact he)
        exact this
       obtain⟨cs,p1,p2⟩:=(e2 e he).1.1 (by rw[zx]; exact Qd _)
       rw[Nm (e2 e he).2]at p1
       grind [X4]
      have yo:=hc _ w L _ _ x y (xs.map a.eval++vc) (fun b f hk=>hk.2.1) (P6 h2 hG) (by rw[←el,hlen]) hLends zq hy
      subst hf
      refine Jr hw ?_
      have yd:(execOp a.eval o).run P w=.ok (.enter c.f ⟨xs.map a.eval++vc⟩) w:=by
       grind [execOp,resolve,Deferred.ofValue,invoke,Qg7]
      unfold Oper.wp
      rw[yd]
      refine yo.mono ?_
      rintro e' w' ⟨v0,rfl,⟨β2,ρ2,xi,⟨cs,xh,tt⟩,hT2,sj⟩,zp⟩
      show wpList P ops Q rest (a.put o.dst v0) w'
      rw[hd]
      have hLl:∀g∈L,∃t∈Qi β ρ Ml,t.blks g:=by
       intro g hg
       obtain⟨q,hq,hg⟩:=(hLm g).1 hg
       grind
      have wt:∀t∈Qi β ρ Ml,∀b f,t.blks b→t.cov b f:=by
       intro t ht b f hb
       obtain⟨q,hq,rfl⟩:=QZ.1 ht
       grind [id,Qzt]
      have h3:=Sb.callO h2 zp hLl wt hT2 sj
      have hROk:∀j∈(roM c x).map Prod.fst,∃cc,Jp ri j=some cc∧j∈c.Γ.mem.map Prod.fst:=fun j hj=>by
       obtain⟨q,hq,rfl⟩:=QZ.1 hj
       unfold roM at hq
       rw[uj]at hq
       obtain⟨ah,ai⟩:=QI.1 hq
       have hk:=qi q ah
       obtain⟨q',vu,qu⟩:=QZ.1 hk
       obtain⟨cc,yc⟩:=Qtp ej q.1 (QZ.2 ⟨q',QI.2 ⟨vu,by rw[qu]; exact ai⟩,qu⟩)
       grind
      have ey:K5 (Ji ri d) (roM c x)=Mo:=by grind [roM]
      generalize hRO:roM c x=RO at *
      generalize hS1:Qbu c.Δ y=S1 at *
      generalize nk:(S1.mem++RO).map Prod.fst=ks at *
      have hA:∀j∈ks,backB (Ji ri d) ks β2 β (Ji ri d j)=β2 j∧Lq (Ji ri d) ks ρ2 ρ (Ji ri d j)=ρ2 j:=by
       intro j hj
       have:=Qzv (g:=Ji ri d) (ks:=ks) (by rw[←nk,List.map_map]; exact P9 n2) j hj
       grind [backB,Lq]
      have uy:∀j∈ks,(∃cc,Jp ri j=some cc∧Ji ri d j=cc∧j∈c.Γ.mem.map Prod.fst) ∨
        (Jp ri j=none∧J7 (Ji ri d j) Mr0=true∧J7 (Ji ri d j) S.fixM=true∧Qhp (Ji ri d j) S.fix=true∧Qhp (Ji ri d j) S.env=true∧Yd S.prot (Ji ri d j)=false∧j∉c.Γ.mem.map Prod.fst):=by
       intro j hj
       rw[←nk,QB]at hj
       rcases QX.1 hj with hj | hj
       ·exact Qzu n1 j hj
       grind [Ji]
      have hB:∀i,(∀j∈ks,Jp ri j=none→Ji ri d j≠i)→backB (Ji ri d) ks β2 β i=β i∧Lq (Ji ri d) ks ρ2 ρ i=ρ i:=by
       intro i hi
       cases hfd:ks.find? (fun j=>Ji ri d j==i)with
       | none=>grind [backB,Lq]
       | some j =>
        have hj:=List.mem_of_find?_eq_some hfd
        have ry:Ji ri d j=i:=by grind
        rcases uy j hj with⟨cc,p1,p2,p3⟩ | ⟨p1,_⟩
        ·obtain⟨q1,q2⟩:=xi j p3
         grind [backB,Hj,Lq,G7]
        grind
      have hfr:=fun j hj (hn:Jp ri j=none)=>(uy j hj).resolve_left fun⟨cc,p1,_⟩=>by rw[hn]at p1; cases p1
      have hEnv:∀e∈S.env++S.fix,∀i∈Jb e.av,backB (Ji ri d) ks β2 β i=β i∧Lq (Ji ri d) ks ρ2 ρ i=ρ i:=by
       grind [Uz,Ji,Qph,Lr]
      have hMem:∀i∈Jg Mr,backB (Ji ri d) ks β2 β i=β i∧Lq (Ji ri d) ks ρ2 ρ i=ρ i:=by
       intro i hi
       refine hB i fun j hj hn ry=>?_
       obtain⟨_,p2,p3,_⟩:=hfr j hj hn
       replace hi:=Jaj (fun q hq=>sg.mem_iff.1 (List.mem_append_right _ hq)) hi
       have zo:∀(l m:List (Nat×Ob)),Jg (l++m)=Jg l++Jg m:=by
        intro l m
        induction l with
        | nil=>rfl
        | cons q l ih =>
         obtain⟨k0,o0⟩:=q
         cases o0 with
         | mapC k1 v xs hole=>cases hole<;>simp[Jg,ih]
         | _=>simp[Jg,ih]
       rw[zo,QX]at hi
       grind [Qpv]
      have vn:Xj (Qi β2 ρ2 (S1.mem++RO)++Qi β ρ Mr) (Qi (backB (Ji ri d) ks β2 β) (Lq (Ji ri d) ks ρ2 ρ) (K5 (Ji ri d) (S1.mem++RO))++Qi (backB (Ji ri d) ks β2 β) (Lq (Ji ri d) ks ρ2 ρ) Mr) :=
       (Qwc fun i hi=>hA i (E3 n4 i hi)).append (Qtn hMem)
      have h4:=Sb.simO h3 vn
      have rz:Qi (backB (Ji ri d) ks β2 β) (Lq (Ji ri d) ks ρ2 ρ) (K5 (Ji ri d) (S1.mem++RO))++Qi (backB (Ji ri d) ks β2 β) (Lq (Ji ri d) ks ρ2 ρ) Mr =
        Qi (backB (Ji ri d) ks β2 β) (Lq (Ji ri d) ks ρ2 ρ) ((K5 (Ji ri d) S1.mem++Mo)++Mr):=by
       rw[show K5 (Ji ri d) (S1.mem++RO)=K5 (Ji ri d) S1.mem++K5 (Ji ri d) RO from QB,ey]
       grind
      have h5:Rel X (backB (Ji ri d) ks β2 β) (Lq (Ji ri d) ks ρ2 ρ) ⟨S.env++S.fix,(K5 (Ji ri d) S1.mem++Mo)++Mr⟩ a w':=by
       refine Rel.ofSb h4 rz fun e he=>?_
       have hp:=Yc.1 h4.dat _ (QZ.2 ⟨e,he,rfl⟩)
       rw[rz]at hp
       exact⟨fun yc=>let⟨cs,q1,q2⟩:=hp.1 yc; ⟨cs,q1,Wu (hEnv e he) q2⟩,hp.2⟩
      have xq:cr (backB (Ji ri d) ks β2 β) (Lq (Ji ri d) ks ρ2 ρ) (okR X (backB (Ji ri d) ks β2 β) (Lq (Ji ri d) ks ρ2 ρ) ((K5 (Ji ri d) S1.mem++Mo)++Mr) w') w' false (Kw (Ji ri d) (P4 S1.env)) cs:=by
       have q1:=Sx (g:=Ji ri d) (fun i hi=>hA i (E3 n3 i (Jal _ i hi))) tt
       refine X4 q1 fun b f hk=>?_
       have q2:=vn.ok b f (Qdx h2 zp.size hLl b f hk)
       rw[rz]at q2
       exact q2
      have h6:=h5.put0 hd1 xq
      have hvv:(Kw (Ji ri d) (P4 S1.env)).val cs=v0:=by rw[xh]; exact Jjj _ _ _
      rw[hvv]at h6
      have ye:((K5 (Ji ri d) S1.mem++Mo)++Mr).Perm ((K5 (Ji ri d) S1.mem++Mr0)++S.fixM):=by
       rw[List.append_assoc,List.append_assoc]
       exact List.Perm.append_left _ sg
      refine H _ _ _ _ _ hs ⟨rfl,rfl,rfl,fun i hi=>hB i fun j hj hn ry=>?_⟩ ?_
      ·grind [Z6]
      ·rw[Xk (S:=⟨S.env,S.fix,K5 (Ji ri d) S1.mem++Mr0,S.fixM,S.prot⟩) qz]
       exact Sb.perm h6 (ye.map _)
     ·cases hx
    ·cases hs
   ·cases hs
  ·cases hs
 ·cases hs
end
end Gx

/- Small things for regions of open order. -/
namespace Gx
open Go Go.RowKit Gd
set_option linter.unusedVariables false
set_option linter.unusedSimpArgs false
theorem Q7d{l:List Oper}{p k i:Nat}(h:Jnv l p=true)(hk:p≤k)(jy:k<l.length)(hi:i<k):Ff l l.length k i=true:=by
 have h1:=QO.1 h k (JV.2 jy)
 simp only[JZ]at h1
 rcases h1 with h1 | h1
 ·have:=QK h1; omega
 grind
theorem Qhz:∀{l:List Nat} {t:Nat},Yd l t=true→t∈l
 | [],t,h=>by cases h
 | k::l,t,h=>by
  simp only[Yd]at h
  cases hb:Nat.beq k t with
  | true=>rw[Nat.eq_of_beq_eq_true hb]; exact .head _
  | false=>rw[hb]at h; exact .tail _ (Qhz (by simpa using h))
theorem Qh0:∀{env:List En} {e:En},e∈Q4d env→e.cs=[]∧e∈env∧Nat.blt e.t 100000=false
 | [],e,h=>by simp[Q4d]at h
 | x::l,e,h=>by
  simp only[Q4d]at h
  cases hb:Nat.blt x.t 100000 with
  | true =>
   rw[hb]at h
   obtain⟨h1,h2,h3⟩:=Qh0 (env:=l) h
   grind
  | false =>
   rw[hb]at h
   simp only[cond_false]at h
   split at h
   ·rename_i hc
    rcases QJ.1 h with rfl | h
    ·grind
    ·obtain⟨h1,h2,h3⟩:=Qh0 (env:=l) h
     grind
   ·obtain⟨h1,h2,h3⟩:=Qh0 (env:=l) h
    grind
theorem Jam{l:List Nat}{i d:Nat}(hi:i<l.length)(h:l.getD i 0=d):l[i]?=some d:=by
 rw[List.getD_eq_getElem?_getD,List.getElem?_eq_getElem hi]at h
 rw[List.getElem?_eq_getElem hi]; grind
abbrev Qef(E:Nat→Bool)(i:Nat):Nat→Bool:=fun j=>j==i||E j
theorem Qh1{l:List Nat}{t:Nat}(h:t∈l):Yd l t=true:=by
 induction l with
 | nil=>cases h
 | cons k l ih =>
  simp only[Yd,JZ]
  rcases QJ.1 h with rfl | h
  ·simp_all
  grind
theorem Qbz:∀{M:List (Nat×Ob)} {id:Nat},Ht (Qe M id)=true→id∈Y6 M
 | [],id,h=>by simp[Qe,Ht]at h
 | (k,ob)::l,id,h=>by
  simp only[Qe]at h
  cases hb:Nat.beq k id with
  | true=>rw[Nat.eq_of_beq_eq_true hb]; exact .head _
  | false=>rw[hb]at h; exact .tail _ (Qbz h)
theorem Jpl{a b:Nat}(h:a≠b):Nat.beq a b=false:=by
 grind [Nat.beq,absurd,Nat.eq_of_beq_eq_true]
theorem Qf0:∀{M:List (Nat×Ob)},(Y6 M).Nodup→∀q∈M,Qe M q.1=some q.2
 | [],_,q,h=>by cases h
 | (k,x)::l,hn,q,h=>by
  have xx:=QT.1 (show(k::Y6 l).Nodup from hn)
  simp only[Qe]
  rcases QJ.1 h with rfl | h
  ·simp_all
  ·have zk:k≠q.1:=fun e=>xx.1 (e▸QZ.2 ⟨q,h,rfl⟩)
   rw[Jpl zk]
   exact Qf0 xx.2 q h
theorem Qtq:∀{ds:List Nat} {env:List En} {e:En},e∈Qln env ds→e∈env∧∀d∈ds,Uz d e.av=true∧e.t≠d∧∀c∈e.cs,c.1≠d
 | [],env,e,h=>⟨h,by simp⟩
 | d::ds,env,e,h=>by
  obtain⟨h1,h2⟩:=Qtq (ds:=ds) h
  obtain⟨h3,h4,h5⟩:=Lg h1
  obtain⟨h6,h7⟩:=Qfz h3
  grind
theorem Qpx{α:Type}{f g:α→Bool}:∀{l:List α} {x:α},(∀y,f y=true→g y=true)→x∈l→f x=false→g x=true→(l.filter f).length<(l.filter g).length
 | y::ys,x,hfg,hx,h1,h2=>by
  have hle:∀zs:List α,(zs.filter f).length≤(zs.filter g).length:=by
   intro zs
   induction zs with
   | nil=>simp
   | cons z zs ih =>
    grind
  rcases QJ.1 hx with rfl | hx
  ·grind
  ·have:=Qpx hfg hx h1 h2
   grind
end Gx

/- Regions, control, functions. -/
namespace Gx
open Go Go.RowKit Gd
set_option linter.unusedVariables false
set_option linter.unusedSimpArgs false
def Qzy(P:Program)(gl:List (Nat×Σ t:Ty,t.De))(K:List Con):Prop:=∀c∈K,Qe5 P gl c∧Runs P c.f
def KsX(P:Program)(Y:TX)(X:Cx)(K:List Con):Prop:=Qzy P Y.gl K∧V1 Y.gl (okN X) X.w
theorem Je5{M:List (Nat×Ob)}(x:AV):(Oj M x).isAgg=x.isAgg:=by
 cases x with
 | s id =>
  simp only[Oj]
  split<;>rfl
 | _=>rfl
theorem Qzz{M:List (Nat×Ob)}(x:AV)(cs:List Value):(Oj M x).val cs=x.val cs:=by
 unfold AV.val
 rw[Je5]
theorem Qh2{M:List (Nat×Ob)}:∀{x:AV} {i:Nat},i∈Jb (Oj M x)→i∈Jb x
 | .s id,i,h=>by
  simp only[Oj]at h
  split at h
  ·cases h
  ·exact h
 | .ag l,i,h=>Qh2 (x:=l) h
 | .cons x r,i,h=>by
  rcases QX.1 (show i∈Jb (Oj M x)++Jb (Oj M r)from h)with h | h
  ·exact List.mem_append_left _ (Qh2 h)
  ·exact List.mem_append_right _ (Qh2 h)
 | .d ..,i,h=>h
 | .p ..,i,h=>h
 | .e ..,i,h=>h
 | .m _,i,h=>h
 | .b _,i,h=>h
 | .w ..,i,h=>h
 | .a ..,i,h=>h
 | .z,i,h=>h
 | .ns,i,h=>h
 | .np,i,h=>h
 | .nm,i,h=>h
 | .nf,i,h=>h
 | .f ..,i,h=>h
 | .tp _,i,h=>h
 | .nil,i,h=>h
section
variable {β:Nat→Nat} {ρ:Nat→Value} {ok:Ok} {w:World}
theorem S6{M:List (Nat×Ob)}(hM:∀id o,Qe M id=some o→(Q0 β ρ id o).p ok w):∀{m:Bool} {x:AV} {cs:List Value},cr β ρ ok w m x cs→cr β ρ ok w m (Oj M x) cs
 | m,.s id,cs,h=>by
  simp only[Oj]
  split
  ·rename_i e t xs ho
   have h1:=(hM _ _ ho).1
   have h':(∃v,cs=[v]∧zal v (ρ id))∧∃A n c,ρ id=.slice A n c:=by cases m<;>exact h
   obtain⟨⟨v,rfl,hz⟩,_⟩:=h'
   have h2:(rt (.sl t)).rep ok w xs [v]:=⟨_,rfl,Zu.1 (Qvw hz h1)⟩
   cases m<;>exact h2
  ·exact h
 | m,.ag l,cs,h=>by
  have h':cr β ρ ok w false l cs:=by cases m<;>exact h
  have:=S6 hM (m:=false) (x:=l) h'
  cases m<;>exact this
 | true,.cons x r,cs,⟨c1,vs,h1,h2,h3⟩=>⟨c1,vs,by rw[h1,Qzz],S6 hM h2,S6 hM h3⟩
 | false,.cons x r,cs,⟨c1,c2,h1,h2,h3⟩=>⟨c1,c2,h1,S6 hM h2,S6 hM h3⟩
 | m,.d ..,cs,h=>h
 | m,.p ..,cs,h=>h
 | m,.e ..,cs,h=>h
 | m,.m _,cs,h=>h
 | m,.b _,cs,h=>h
 | m,.w ..,cs,h=>h
 | m,.a ..,cs,h=>h
 | m,.z,cs,h=>h
 | m,.ns,cs,h=>h
 | m,.np,cs,h=>h
 | m,.nm,cs,h=>h
 | m,.nf,cs,h=>h
 | m,.f ..,cs,h=>h
 | m,.tp _,cs,h=>h
 | m,.nil,cs,h=>h
end
theorem Sb.replO{β0:Nat→Nat}{X:Cx}{G:GL}{D:List DF}{H:HL}{O1 O2:List TL}{t t':TL}{a:Act}{w:World}(h:Sb β0 X G D H (O1++t::O2) a w)(h1:∀g,t'.blks g↔t.blks g)(h2:∀b o,t'.cov b o↔t.cov b o)
  (hp:t'.p (Jh X.ok X.w.heap.size β0 H (O1++t::O2) w) w):Sb β0 X G D H (O1++t'::O2) a w:=by
 have ke:∀u∈O1++t'::O2,u=t'∨u∈O1++t::O2:=fun u hu=>by
  grind
 have ht:t∈O1++t::O2:=List.mem_append_right _ (.head _)
 have kn:∀b o,Jh X.ok X.w.heap.size β0 H (O1++t::O2) w b o→Jh X.ok X.w.heap.size β0 H (O1++t'::O2) w b o:=fun b o ⟨q1,q2,q3,q4⟩=>⟨q1,q2,q3,fun u hu hc=>by
  grind⟩
 refine { sz:=h.sz,df:=h.df,fr:=h.fr,pn:=h.pn,tm:=h.tm,bel:=h.bel,dat:=h.dat.weak kn,obj:=h.obj,own:=fun u hu=>?_,dHH:=h.dHH,dHO:=fun p xe u hu=>?_,dOO:=?_ }
 ·rcases ke u hu with rfl | hu
  ·exact⟨u.weak hp kn,fun g hg=>(h.own t ht).2 g ((h1 g).1 hg)⟩
  ·exact⟨u.weak (h.own u hu).1 kn,(h.own u hu).2⟩
 ·rcases ke u hu with rfl | hu
  ·exact fun hb=>h.dHO p xe t ht ((h1 _).1 hb)
  ·exact h.dHO p xe u hu
 ·have:=h.dOO
  rw[QF,List.pairwise_cons]at this ⊢
  grind
theorem Jpm{X:Cx}{β:Nat→Nat}{ρ:Nat→Value}{a:Act}{w:World}{S:XS}(h:Rel X β ρ S.flat a w){id:Nat}{tid:TypeId}{c:AV}(hm:Qe S.mem id=some (.var tid c)):Rel X β ρ (S.set id (.var tid (Oj S.flat.mem c))).flat a w:=by
 have z6:Qe S.flat.mem id=some (.var tid c):=Q4 hm
 obtain⟨l1,l2,e1,e2,e3⟩:=Jv z6
 have hE:(S.set id (.var tid (Oj S.flat.mem c))).flat=⟨S.flat.env,Qhf S.flat.mem id (.var tid (Oj S.flat.mem c))⟩:=by
  grind [XS.flat,XS.set,E1]
 rw[hE,e2]
 have hO:Qi β ρ S.flat.mem=Qi β ρ l1++Q0 β ρ id (.var tid c)::Qi β ρ l2:=by rw[e1]; simp[Qi]
 have ke:Qi β ρ (l1++(id,Ob.var tid (Oj S.flat.mem c))::l2)=Qi β ρ l1++Q0 β ρ id (.var tid (Oj S.flat.mem c))::Qi β ρ l2:=by simp[Qi]
 have h0:Sb (fun _=>0) X [] (S.flat.env.map (enD β ρ a)) [] (Qi β ρ l1++Q0 β ρ id (.var tid c)::Qi β ρ l2) a w:=by rw[←hO]; exact h
 obtain⟨cs,q1,q2⟩:=(h.ob z6).1
 have hS:=Sb.replO h0 (t':=Q0 β ρ id (.var tid (Oj S.flat.mem c))) (fun _=>Iff.rfl) (fun _ _=>Iff.rfl) (by
  rw[←hO]
  exact⟨cs,q1,S6 h.mm q2⟩)
 exact Rel.ofSb hS ke.symm fun e he=>by
  have:=Yc.1 hS.dat _ (QZ.2 ⟨e,he,rfl⟩)
  rw[←ke]at this
  exact this
section
variable {P:Program} {Y:TX} {X:Cx} {S:XS} {β β':Nat→Nat} {ρ ρ':Nat→Value} {a a':Act} {w w':World} {n N:Nat} {K:List Con}
variable {Q:Exit→Act→World→Prop} {R:Type} {r:R}
theorem Qh3{env:List En}:∀{ts:List Nat},∀e∈Qr3 env ts,e∈env
 | [],e,he=>by simp[Qr3]at he
 | t::ts,e,he=>by
  simp only[Qr3]at he
  split at he
  ·rename_i x hx
   rcases QJ.1 he with rfl | he
   ·grind [Uy]
   ·exact Qh3 e he
  ·exact Qh3 e he
theorem Rel.ent(h:Rel X β ρ S.flat a w)(ks ms:List Nat):Rel X β ρ (S.ent ks ms).flat a w:=by
 have h1:Rel X β ρ ⟨S.env++(Qr3 S.env ks++S.fix),S.flat.mem⟩ a w:=Rel.less (S:=S.flat) h fun e he=>by
  rcases QX.1 he with he | he
  ·exact List.mem_append_left _ he
  ·rcases QX.1 he with he | he
   ·exact List.mem_append_left _ (Qh3 e he)
   ·exact List.mem_append_right _ he
 refine h1.permM ?_
 simp only[XS.flat,XS.ent]
 have:=Zo ms S.mem
 rw[←List.append_assoc]
 exact((JK.trans this).append_right _).symm
theorem Qb0(ks ms:List Nat)(S1:St):(S.out ks ms S1).flat=((S.ent ks ms).re S1).flat:=by simp[XS.flat,XS.out,XS.re,XS.ent]
theorem Oo{S0 S':XS}{Γ:Shp}(h:Rel X β ρ S'.flat a w)(hk:S'.fix=S0.fix∧S'.fixM=S0.fixM∧S'.prot=S0.prot){x:Γ.De}(hd:S'.dec Γ=some x) :
  ∃β' ρ',agP S0.prot β β' ρ ρ'∧Rel X β' ρ' (S0.re (enc Γ x)).flat a w:=by
 obtain⟨β',ρ',h1,h2⟩:=XS.dec_ok h hd
 rw[hk.2.2]at h1
 rw[hk.1,hk.2.1]at h2
 exact⟨β',ρ',h1,h2⟩
theorem Qpy(h:Rel X β ρ S.flat a w){t:Nat}{x:AV}(he:Kf S.env t=some ⟨t,[],x⟩):Rel X β ρ (XS.put S t [] x).flat a w:=by
 obtain⟨hm,_⟩:=Uy he
 refine Rel.less (S:=S.flat) h fun e hE=>?_
 rcases QX.1 hE with hE | hE
 ·rcases QJ.1 hE with rfl | hE
  ·exact List.mem_append_left _ hm
  ·exact List.mem_append_left _ (Lg hE).1
 ·exact List.mem_append_right _ hE
theorem Q7e(h:Rel X β ρ S.flat a w){t:Nat}{b:Bool}(he:Kf S.env t=some ⟨t,[],.d .bool b⟩):Rel X β ρ (XS.put S t [] (.d .bool b)).flat a w:=by
 obtain⟨hm,_⟩:=Uy he
 refine Rel.less (S:=S.flat) h fun e hE=>?_
 rcases QX.1 hE with hE | hE
 ·rcases QJ.1 hE with rfl | hE
  ·exact List.mem_append_left _ hm
  ·exact List.mem_append_left _ (Lg hE).1
 ·exact List.mem_append_right _ hE
theorem Vc(hT:Q6 P Y.T)(hK:KsX P Y X K)(hX:X.n=n)(hr:X.res=[]){ops:List Oper}{Q:Exit→Act→World→Prop}:∀{R:Type} {r:R} (h:Hn) {l rest:List Oper} {S:XS} {β:Nat→Nat} {ρ:Nat→Value} {a:Act} {w:World} {k:XS→Option R},
  Rel X β ρ S.flat a w→Yt Y K n ops h l S k=some r→KOk P ⟨ops⟩ Q rest X S β ρ k r→wpList P ⟨ops⟩ Q (l++rest) a w
 | R,r,.done,l,rest,S,β,ρ,a,w,k,hS,hs,H=>by
  cases l with
  | nil=>exact H β ρ S a w (by simp_all [Yt]) (Yx.refl _ _ _) hS
  | cons o l=>simp[Yt]at hs
 | R,r,.n m g,l,rest,S,β,ρ,a,w,k,hS,hs,H=>by
  simp only[Yt]at hs
  have:=Qwb (P:=P) (X:=X) (Q:=Q) (r:=r) (Qhr Y n ops) (fun h1 h2 h3=>Jex hT hX hr h1 h2 h3) (l1:=l.take m) (rest:=l.drop m++rest) hS hs fun β' ρ' S' a' w' h1 h2 h3=>Vc hT hK hX hr g h3 h1 (H.after h2)
  rwa[←List.append_assoc,List.take_append_drop]at this
 | R,r,.nl m g,l,rest,S,β,ρ,a,w,k,hS,hs,H=>by
  simp only[Yt]at hs
  have:=Qwb (P:=P) (X:=X) (Q:=Q) (r:=r) (Gx.stepL Y n ops) (fun h1 h2 h3=>Jey hT hX hr h1 h2 h3) (l1:=l.take m) (rest:=l.drop m++rest) hS hs fun β' ρ' S' a' w' h1 h2 h3=>Vc hT hK hX hr g h3 h1 (H.after h2)
  rwa[←List.append_assoc,List.take_append_drop]at this
 | R,r,.call c g,l,rest,S,β,ρ,a,w,k,hS,hs,H=>by
  simp only[Yt]at hs
  split at hs
  ·rename_i con o l' hc
   split at hs
   ·rename_i hg
    have yw:=hK.1 con (List.mem_of_getElem? hc)
    exact Qlr hX hr hS (Wv (I8 hg) _) yw.1 hK.2 yw.2 hs fun β' ρ' S' a' w' h1 h2 h3=>Vc hT hK hX hr g h3 h1 (H.after h2)
   ·rename_i t want hg
    split at hs
    ·rename_i t' b he
     split at hs
     ·rename_i hb
      have ao:b=want:=by simpa using hb
      subst ao
      obtain⟨cs,h1,h2⟩:=hS.get he (Qd a)
      have zb:cs=_:=h2
      subst zb
      have yw:=hK.1 con (List.mem_of_getElem? hc)
      exact Qlr hX hr hS ((Vr hg).2 h1) yw.1 hK.2 yw.2 hs fun β' ρ' S' a' w' h1 h2 h3=>Vc hT hK hX hr g h3 h1 (H.after h2)
     ·cases hs
    ·cases hs
   ·cases hs
  ·cases hs
 | R,r,.br g,l,rest,S,β,ρ,a,w,k,hS,hs,H=>by
  simp only[Yt]at hs
  split at hs
  ·rename_i o l'
   split at hs
   ·rename_i hg
    exact Qzp hT hX hr hS (Wv (I8 hg) _) hs fun β' ρ' S' a' w' h1 h2 h3=>Vc hT hK hX hr g h3 h1 (H.after h2)
   ·rename_i t want hg
    split at hs
    ·rename_i t' b he
     split at hs
     ·rename_i hb
      have ao:b=want:=by simpa using hb
      subst ao
      obtain⟨cs,h1,h2⟩:=hS.get he (Qd a)
      have zb:cs=_:=h2
      subst zb
      exact Qzp hT hX hr hS ((Vr hg).2 h1) hs fun β' ρ' S' a' w' h1 h2 h3=>Vc hT hK hX hr g h3 h1 (H.after h2)
     ·cases hs
    ·cases hs
   ·cases hs
  ·cases hs
 | R,r,.fz id g,l,rest,S,β,ρ,a,w,k,hS,hs,H=>by
  simp only[Yt]at hs
  have h1:Rel X β ρ (XS.flat { S with mem:=Va [id] S.mem }) a w:=by
   have:=Rel.freeze S.mem (l0:=[]) (F:=S.fixM) (ks:=[id]) hS
   simp only[QU]at this
   exact this
  exact Vc hT hK hX hr g h1 hs (H.after ⟨rfl,rfl,rfl,agP.refl _ _ _⟩)
 | R,r,.keep ts g,l,rest,S,β,ρ,a,w,k,hS,hs,H=>by
  simp only[Yt]at hs
  have h1:Rel X β ρ (XS.flat { S with env:=Qr3 S.env ts }) a w:=Rel.less (S:=S.flat) hS fun e he=>by
   rcases QX.1 he with he | he
   ·exact List.mem_append_left _ (Qh3 e he)
   ·exact List.mem_append_right _ he
  exact Vc hT hK hX hr g h1 hs (H.after ⟨rfl,rfl,rfl,agP.refl _ _ _⟩)
 | R,r,.op src id d g,l,rest,S,β,ρ,a,w,k,hS,hs,H=>by
  simp only[Yt]at hs
  obtain⟨S1,β1,ρ1,h1,h2,hs⟩:=Qzh hS hs
  exact Vc hT hK hX hr g h2 hs (H.after h1)
 | R,r,.cl id g,l,rest,S,β,ρ,a,w,k,hS,hs,H=>by
  simp only[Yt]at hs
  obtain⟨S1,ρ1,h1,h2,hs⟩:=Qti hS hs
  exact Vc hT hK hX hr g h2 hs (H.after h1)
 | R,r,.fm id g,l,rest,S,β,ρ,a,w,k,hS,hs,H=>by
  simp only[Yt]at hs
  obtain⟨S1,h1,h2,hs⟩:=Qzj hS hs
  exact Vc hT hK hX hr g h2 hs (H.after h1)
 | R,r,.md m g,l,rest,S,β,ρ,a,w,k,hS,hs,H=>by simp[Yt]at hs
 | R,r,.tl g,l,rest,S,β,ρ,a,w,k,hS,hs,H=>by simp[Yt]at hs
 | R,r,.dt _ g,l,rest,S,β,ρ,a,w,k,hS,hs,H=>by simp[Yt]at hs
 | R,r,.si t i x y,l,rest,S,β,ρ,a,w,k,hS,hs,H=>by
  simp only[Yt]at hs
  split at hs
  ·rename_i t' kd v he
   obtain⟨hf,hs⟩:=bvT hs
   split at hs
   ·rename_i hv
    subst hv
    have ht:t'=t:=(Uy he).2
    subst ht
    exact Vc hT hK hX hr x (Qpy hS he) hs (H.after ⟨rfl,rfl,rfl,agP.refl _ _ _⟩)
   ·exact Vc hT hK hX hr y hS hs H
  ·cases hs
 | R,r,.so t x y,l,rest,S,β,ρ,a,w,k,hS,hs,H=>by simp[Yt]at hs
 | R,r,.sp t m ks ms Γ x y g,l,rest,S,β,ρ,a,w,k,hS,hs,H=>by
  simp only[Yt]at hs
  split at hs
  ·rename_i t' v he
   have k9:t'=t:=(Uy he).2
   subst k9
   obtain⟨hb,hs⟩:=bvT hs
   obtain⟨z,hz,hs⟩:=Yj hs
   have hp:=Q7e hS he
   have fin:KOk P ⟨ops⟩ Q (l.drop m++rest) X ((XS.put S t' [] (.d .bool v)).ent ks ms) β ρ (fun S'=>S'.dec Γ) z:=by
    intro β1 ρ1 S' a' w' hd hk h1
    obtain⟨β2,ρ2,h2,h3⟩:=Oo (S0:=(XS.put S t' [] (.d .bool v)).ent ks ms) h1 ⟨hk.fix,hk.fixM,hk.prot⟩ hd
    rw[←Qb0]at h3
    refine Vc hT hK hX hr g h3 hs (H.after ⟨rfl,rfl,rfl,?_⟩)
    exact agP.trans hk.ag h2
   have e:l++rest=l.take m++(l.drop m++rest):=by rw[←List.append_assoc,List.take_append_drop]
   rw[e]
   cases v with
   | true =>
    rw[if_pos rfl]at hz
    exact Vc hT hK hX hr x (hp.ent ks ms) hz fin
   | false =>
    rw[if_neg (by simp)]at hz
    exact Vc hT hK hX hr y (hp.ent ks ms) hz fin
  ·cases hs
theorem S7:∀{R:Type} {r:R} (h:Hn) {S:XS} {β:Nat→Nat} {ρ:Nat→Value} {k:XS→Option R},Rel X β ρ S.flat a w→Ol h S k=some r→∃S' β' ρ',k S'=some r∧Yx S S' β β' ρ ρ'∧Rel X β' ρ' S'.flat a w
 | R,r,.done,S,β,ρ,k,hS,hs=>⟨S,β,ρ,hs,Yx.refl _ _ _,hS⟩
 | R,r,.fz id g,S,β,ρ,k,hS,hs=>by
  simp only[Ol]at hs
  have h1:Rel X β ρ (XS.flat { S with mem:=Va [id] S.mem }) a w:=by
   have:=Rel.freeze S.mem (l0:=[]) (F:=S.fixM) (ks:=[id]) hS
   simp only[QU]at this
   exact this
  obtain⟨S',β',ρ',q1,q2,q3⟩:=S7 g h1 hs
  exact⟨S',β',ρ',q1,⟨q2.fix,q2.fixM,q2.prot,q2.ag⟩,q3⟩
 | R,r,.op src id d g,S,β,ρ,k,hS,hs=>by
  simp only[Ol]at hs
  obtain⟨S1,β1,ρ1,h1,h2,hs⟩:=Qzh hS hs
  obtain⟨S',β',ρ',q1,q2,q3⟩:=S7 g h2 hs
  exact⟨S',β',ρ',q1,h1.trans q2,q3⟩
 | R,r,.cl id g,S,β,ρ,k,hS,hs=>by
  simp only[Ol]at hs
  obtain⟨S1,ρ1,h1,h2,hs⟩:=Qti hS hs
  obtain⟨S',β',ρ',q1,q2,q3⟩:=S7 g h2 hs
  exact⟨S',β',ρ',q1,h1.trans q2,q3⟩
 | R,r,.fm id g,S,β,ρ,k,hS,hs=>by
  simp only[Ol]at hs
  obtain⟨S1,h1,h2,hs⟩:=Qzj hS hs
  obtain⟨S',β',ρ',q1,q2,q3⟩:=S7 g h2 hs
  exact⟨S',β',ρ',q1,h1.trans q2,q3⟩
 | R,r,.n _ _,S,β,ρ,k,hS,hs=>by simp[Ol]at hs
 | R,r,.nl _ _,S,β,ρ,k,hS,hs=>by simp[Ol]at hs
 | R,r,.md _ _,S,β,ρ,k,hS,hs=>by simp[Ol]at hs
 | R,r,.keep _ _,S,β,ρ,k,hS,hs=>by simp[Ol]at hs
 | R,r,.sp _ _ _ _ _ _ _ _,S,β,ρ,k,hS,hs=>by simp[Ol]at hs
 | R,r,.call _ _,S,β,ρ,k,hS,hs=>by simp[Ol]at hs
 | R,r,.tl _,S,β,ρ,k,hS,hs=>by simp[Ol]at hs
 | R,r,.dt id g,S,β,ρ,k,hS,hs=>by
  simp only[Ol]at hs
  split at hs
  ·rename_i tid c hm
   obtain⟨S',β',ρ',q1,q2,q3⟩:=S7 g (Jpm hS hm) hs
   exact⟨S',β',ρ',q1,⟨q2.fix,q2.fixM,q2.prot,q2.ag⟩,q3⟩
  ·cases hs
 | R,r,.so _ _ _,S,β,ρ,k,hS,hs=>by simp[Ol]at hs
 | R,r,.si _ _ _ _,S,β,ρ,k,hS,hs=>by simp[Ol]at hs
def TOk(P:Program)(ops:Array Oper)(Q:Act→Prop)(rest:List Oper)(X:Cx)(w:World)(S0:XS)(β:Nat→Nat)(ρ:Nat→Value){R:Type}(k:XS→Option R)(r:R):Prop :=
 ∀(β':Nat→Nat) (ρ':Nat→Value) (S':XS) (a':Act),k S'=some r→Yx S0 S' β β' ρ ρ'→Rel X β' ρ' S'.flat a' w→wpStill P ops w Q rest a'
theorem TOk.after{ops:Array Oper}{Q:Act→Prop}{rest:List Oper}{k:XS→Option R}(h:TOk P ops Q rest X w S β ρ k r){S1:XS}{β1:Nat→Nat}{ρ1:Nat→Value}(hk:Yx S S1 β β1 ρ ρ1):TOk P ops Q rest X w S1 β1 ρ1 k r :=
 fun β' ρ' S' a' h1 h2 h3=>h β' ρ' S' a' h1 (hk.trans h2) h3
section
variable {ops:List Oper} {Qs:Act→Prop} {rest:List Oper} {k:XS→Option R}
theorem Qz0{o:Oper}(hw:Region.wanted o (yielded ⟨ops⟩ a.tmps)=true){v:Value}(hr:(execOp a.eval o).run P w=.ok (.value v) w)(h:wpStill P ⟨ops⟩ w Qs rest (a.put o.dst v)):wpStill P ⟨ops⟩ w Qs (o::rest) a:=by
 simp_all [wpStill,if_pos,Oper.still,Oper.stillUpon_value]
theorem Qpz{o:Oper}(hw:Region.wanted o (yielded ⟨ops⟩ a.tmps)=false)(h:wpStill P ⟨ops⟩ w Qs rest (a.put o.dst undef)):wpStill P ⟨ops⟩ w Qs (o::rest) a:=by
 simp_all [wpStill,if_neg]
theorem Qp0(hT:Q6 P Y.T)(hX:X.n=n)(hr:X.res=[])(h:Rel X β ρ S.flat a w){o:Oper}(hw:Region.wanted o (yielded ⟨ops⟩ a.tmps)=true)(hs:Qzc Y n o S k=some r)(H:TOk P ⟨ops⟩ Qs rest X w S β ρ k r):wpStill P ⟨ops⟩ w Qs (o::rest) a:=by
 unfold Qzc at hs
 split at hs
 ·rename_i d hd
  obtain⟨hb,hs⟩:=bvT hs
  obtain⟨av,hk,vp⟩:=Qy7 (P:=P) hT rfl hs
  obtain⟨h1,h2⟩:=Vb hb hX hr
  obtain⟨cs,h3,h4⟩:=vp h.toW (Qd a)
  refine Qz0 hw h3 ?_
  rw[hd]
  refine H β ρ _ _ hk (Gn S d [] av) ?_
  rw[Xk h2]
  exact h.put0 h1 h4
 ·cases hs
theorem Qz1(hX:X.n=n)(hr:X.res=[])(h:Rel X β ρ S.flat a w){o:Oper}(hw:Region.wanted o (yielded ⟨ops⟩ a.tmps)=false)(hs:Qbw n o S k=some r)(H:TOk P ⟨ops⟩ Qs rest X w S β ρ k r):wpStill P ⟨ops⟩ w Qs (o::rest) a:=by
 refine Qpz hw ?_
 unfold Qbw at hs
 split at hs
 ·rename_i d hd
  obtain⟨hb,hk⟩:=bvT hs
  obtain⟨h1,h2⟩:=Vb hb hX hr
  rw[hd]
  refine H β ρ _ _ hk (Gn S d [] _) ?_
  rw[Xk h2]
  exact h.put0 h1 (x:=.tp .nil) (c:=[.tuple #[]]) ⟨[],rfl,rfl⟩
 ·rename_i hd
  rw[hd]
  exact H β ρ _ _ hs (Yx.refl _ _ _) h
theorem Jan(hT:Q6 P Y.T)(hX:X.n=n)(hr:X.res=[])(h:Rel X β ρ S.flat a w){o:Oper}{t:Nat}{want:Bool}(hg:Qfv ops o=some (some (t,want)))(hs:Qhq Y n t want o S k=some r)(H:TOk P ⟨ops⟩ Qs rest X w S β ρ k r) :
  wpStill P ⟨ops⟩ w Qs (o::rest) a:=by
 unfold Qhq at hs
 split at hs
 ·rename_i t' cs b d he hd
  obtain⟨hb,hs⟩:=bvT hs
  simp only[QQ]at hb
  obtain⟨h1,h2⟩:=Vb hb.1.1 hX hr
  have kr:=neB hb.1.2
  have hud:∀c∈cs,c.1≠d:=Qbp (by grind)
  split at hs
  ·rename_i v hv
   obtain⟨hm,k9⟩:=Uy he
   simp only at k9
   subst k9
   have xf:∀u:Value,Js (a.put (some d) u) ((t',want)::cs)↔Js a ((t',want)::cs):=by
    intro u
    have zk:∀c∈(t',want)::cs,c.1≠d:=by
     grind
    exact⟨fun hc c hm=>by rw[←Yz (zk c hm) u]; exact hc c hm,fun hc c hm=>by rw[Yz (zk c hm) u]; exact hc c hm⟩
   by_cases hw:Region.wanted o (yielded ⟨ops⟩ a.tmps)=true
   ·have vf:=(Vr hg).1 hw
    have zx:Js a cs:=by
     rcases(h.en hm).2 with h3 | h3
     ·exact h3
     grind [Nm,Qbn,undef]
    have wb:Js a ((t',want)::cs):=by
     intro c hc
     rcases QJ.1 hc with rfl | hc
     ·exact vf
     ·exact zx c hc
    obtain⟨c,h3,h4⟩:=Qhn hT h.toW wb hv
    refine Qz0 hw h3 ?_
    rw[hd]
    refine H β ρ _ _ hs (Gn S d _ _) ?_
    rw[Xk h2]
    exact h.put h1 (fun _=>⟨c,rfl,h4⟩) (.inl ((xf _).2 wb))
   ·have qh:Region.wanted o (yielded ⟨ops⟩ a.tmps)=false:=by simpa using hw
    refine Qpz qh ?_
    rw[hd]
    refine H β ρ _ _ hs (Gn S d _ _) ?_
    rw[Xk h2]
    refine h.put h1 (fun hc=>?_) (.inr rfl)
    have:=(xf _).1 hc
    exact absurd ((Vr hg).2 (this _ (.head _))) hw
  ·cases hs
 ·cases hs
theorem Jao(hT:Q6 P Y.T)(hX:X.n=n)(hr:X.res=[])(h:Rel X β ρ S.flat a w){o:Oper}(hs:Qv3 Y n ops o S k=some r)(H:TOk P ⟨ops⟩ Qs rest X w S β ρ k r):wpStill P ⟨ops⟩ w Qs (o::rest) a:=by
 grind [Qv3,Qp0,Wv,I8,Jan]
theorem Jap(hT:Q6 P Y.T)(hX:X.n=n)(hr:X.res=[])(h:Rel X β ρ S.flat a w){o:Oper}(hs:Qv4 Y n ops o S k=some r)(H:TOk P ⟨ops⟩ Qs rest X w S β ρ k r):wpStill P ⟨ops⟩ w Qs (o::rest) a:=by
 unfold Qv4 at hs
 split at hs
 ·grind [Qp0,Wv,I8]
 ·rename_i t want hg
  split at hs
  ·rename_i t' b he
   obtain⟨cs,h1,h2⟩:=h.get he (Qd a)
   have zb:cs=_:=h2
   subst zb
   have k8:a.tmps[t]?=some (.bool b):=h1
   split at hs
   ·grind [Qp0,Vr]
   ·rename_i hb
    refine Qz1 hX hr h ?_ hs H
    have zk:b≠want:=by simpa using hb
    cases hw:Region.wanted o (yielded ⟨ops⟩ a.tmps)with
    | false=>rfl
    | true =>
     have:=(Vr hg).1 hw
     rw[k8]at this
     grind
  ·rename_i t' he
   obtain⟨cs,h1,vs,h2,h3⟩:=h.get he (Qd a)
   subst h2
   refine Qz1 hX hr h ?_ hs H
   cases hw:Region.wanted o (yielded ⟨ops⟩ a.tmps)with
   | false=>rfl
   | true =>
    have:=(Vr hg).1 hw
    rw[h1]at this
    injection this with this
    cases this
  ·cases hs
 ·cases hs
theorem Qp1(st:Oper→XS→(XS→Option R)→Option R)
  (zj:∀{o:Oper} {rest:List Oper} {S:XS} {β:Nat→Nat} {ρ:Nat→Value} {a:Act} {k:XS→Option R},Rel X β ρ S.flat a w→st o S k=some r→TOk P ⟨ops⟩ Qs rest X w S β ρ k r→wpStill P ⟨ops⟩ w Qs (o::rest) a) :
  ∀{l1 rest:List Oper} {S:XS} {β:Nat→Nat} {ρ:Nat→Value} {a:Act} {k:XS→Option R},Rel X β ρ S.flat a w→Qmm st l1 S k=some r→TOk P ⟨ops⟩ Qs rest X w S β ρ k r→wpStill P ⟨ops⟩ w Qs (l1++rest) a
 | [],rest,S,β,ρ,a,k,h,hs,H=>H β ρ S a hs (Yx.refl _ _ _) h
 | o::l1,rest,S,β,ρ,a,k,h,hs,H=>by
  simp only[Qmm]at hs
  refine zj (rest:=l1++rest) h hs fun β' ρ' S' a' hk xf h'=>?_
  exact Qp1 st zj h' hk (H.after xf)
end
theorem S8(hT:Q6 P Y.T)(hX:X.n=n)(hr:X.res=[]){ops:List Oper}{Qs:Act→Prop}:∀{R:Type} {r:R} (h:Hn) {l rest:List Oper} {S:XS} {β:Nat→Nat} {ρ:Nat→Value} {a:Act} {k:XS→Option R},
  Rel X β ρ S.flat a w→Ll Y n ops h l S k=some r→TOk P ⟨ops⟩ Qs rest X w S β ρ k r→wpStill P ⟨ops⟩ w Qs (l++rest) a
 | R,r,.done,l,rest,S,β,ρ,a,k,hS,hs,H=>by
  cases l with
  | nil=>exact H β ρ S a (by grind [Ll]) (Yx.refl _ _ _) hS
  | cons o l=>simp[Ll]at hs
 | R,r,.n m g,l,rest,S,β,ρ,a,k,hS,hs,H=>by
  simp only[Ll]at hs
  have:=Qp1 (P:=P) (X:=X) (w:=w) (r:=r) (Qv3 Y n ops) (fun h1 h2 h3=>Jao hT hX hr h1 h2 h3) (l1:=l.take m) (rest:=l.drop m++rest) hS hs fun β' ρ' S' a' h1 h2 h3=>S8 hT hX hr g h3 h1 (H.after h2)
  rwa[←List.append_assoc,List.take_append_drop]at this
 | R,r,.nl m g,l,rest,S,β,ρ,a,k,hS,hs,H=>by
  simp only[Ll]at hs
  have:=Qp1 (P:=P) (X:=X) (w:=w) (r:=r) (Qv4 Y n ops) (fun h1 h2 h3=>Jap hT hX hr h1 h2 h3) (l1:=l.take m) (rest:=l.drop m++rest) hS hs fun β' ρ' S' a' h1 h2 h3=>S8 hT hX hr g h3 h1 (H.after h2)
  rwa[←List.append_assoc,List.take_append_drop]at this
 | R,r,.call c g,l,rest,S,β,ρ,a,k,hS,hs,H=>by simp[Ll]at hs
 | R,r,.fz id g,l,rest,S,β,ρ,a,k,hS,hs,H=>by simp[Ll]at hs
 | R,r,.keep ts g,l,rest,S,β,ρ,a,k,hS,hs,H=>by simp[Ll]at hs
 | R,r,.md m g,l,rest,S,β,ρ,a,k,hS,hs,H=>by simp[Ll]at hs
 | R,r,.cl _ _,l,rest,S,β,ρ,a,k,hS,hs,H=>by simp[Ll]at hs
 | R,r,.op _ _ _ _,l,rest,S,β,ρ,a,k,hS,hs,H=>by simp[Ll]at hs
 | R,r,.fm _ _,l,rest,S,β,ρ,a,k,hS,hs,H=>by simp[Ll]at hs
 | R,r,.tl g,l,rest,S,β,ρ,a,k,hS,hs,H=>by simp[Ll]at hs
 | R,r,.dt _ g,l,rest,S,β,ρ,a,k,hS,hs,H=>by simp[Ll]at hs
 | R,r,.si _ _ _ _,l,rest,S,β,ρ,a,k,hS,hs,H=>by simp[Ll]at hs
 | R,r,.so t x y,l,rest,S,β,ρ,a,k,hS,hs,H=>by simp[Ll]at hs
 | R,r,.sp t m ks ms Γ x y g,l,rest,S,β,ρ,a,k,hS,hs,H=>by
  simp only[Ll]at hs
  split at hs
  ·rename_i t' v he
   have k9:t'=t:=(Uy he).2
   subst k9
   obtain⟨hb,hs⟩:=bvT hs
   obtain⟨z,hz,hs⟩:=Yj hs
   have hp:=Q7e hS he
   have fin:TOk P ⟨ops⟩ Qs (l.drop m++rest) X w ((XS.put S t' [] (.d .bool v)).ent ks ms) β ρ (fun S'=>S'.dec Γ) z:=by
    intro β1 ρ1 S' a' hd hk h1
    obtain⟨β2,ρ2,h2,h3⟩:=Oo (S0:=(XS.put S t' [] (.d .bool v)).ent ks ms) h1 ⟨hk.fix,hk.fixM,hk.prot⟩ hd
    rw[←Qb0]at h3
    refine S8 hT hX hr g h3 hs (H.after ⟨rfl,rfl,rfl,?_⟩)
    exact agP.trans hk.ag h2
   have e:l++rest=l.take m++(l.drop m++rest):=by rw[←List.append_assoc,List.take_append_drop]
   rw[e]
   cases v with
   | true =>
    rw[if_pos rfl]at hz
    exact S8 hT hX hr x (hp.ent ks ms) hz fin
   | false =>
    rw[if_neg (by simp)]at hz
    exact S8 hT hX hr y (hp.ent ks ms) hz fin
  ·cases hs
theorem Rel.drew(h:Rel X β ρ S.flat a w):Rel X β ρ S.flat a { w with drawn:=w.drawn+1 }:=Sb.below h ((Below.refl _ _).drew)
end
end Gx
