/- Literals as rows; maps whose values are objects of their own. -/
import Derived.Test.YtfkpgpibpnghiaaGreatXM
import Derived.StillTail
namespace Gx
open Go Go.RowKit Gd
set_option linter.unusedVariables false
set_option linter.unusedSimpArgs false
theorem Q2w{v:Value}(h:Qq9 v=true):v=.map none:=by
 grind [Qq9]
theorem Q79{v:Value}(h:Qyu v=true):v=.slice none 0 0:=by
 grind [Qyu]
def Ju4:CK→Value
 | .sl _ _=>.slice none 0 0
 | .mp _ _=>.map none
theorem Qv6{c:CK}{v:Value}(h:Q7z c v=true):v=Ju4 c:=by
 cases c with
 | sl e u=>exact Q79 h
 | mp k w=>exact Q2w h
theorem Ji9{c:CK}:(Ju4 c).oneCell'=true:=by cases c<;>rfl
theorem Jja{β:Nat→Nat}{ρ:Nat→Value}{ok:Ok}{w:World}{M:List (Nat×Ob)}(hM:∀id o,Qh M id=some o→(Q4 β ρ id o).p ok w){R:Type}{kk:Ty}(hk:Sm kk=true){c:CK}{xs:List (kk.De×c.ty.De)}{hole:Option (kk.De×Nat)}{key:kk.De}{vs:List Value}{ys:List (kk.De×Value)}
  (hrel:Du c (Q10 hole) (Np β ρ c hole) ok w xs ys vs) (habs:∀k,Q10 hole=some k→k∉xs.map Prod.fst→Np β ρ c hole=.slice none 0 0) {z:Value} (hz:Q7z c z=true) {av:AV}
  (hav:(∃q,hole=some q∧Fk (Qnn c (Qh M q.2))=true∧eqK kk key q.1=true∧av=avC c q.2)∨(hole=none∧(∃k v,c=.mp k v)∧Qr key xs=none∧av=.nm)) :
  ∃cs,(Qr key ys).getD z=av.val cs∧cr β ρ ok w false av cs:=by
 have hz:=Qv6 hz
 rcases hav with⟨q,rfl,hq,he,rfl⟩ | ⟨rfl,⟨k2,v2,rfl⟩,hn,rfl⟩
 ·have hkq:=(Uy hk).1 he
  have hzal:zal ((Qr key ys).getD z) (Np β ρ c (some q)):=by
   rcases Qlh key hrel with⟨q1,q2⟩ | ⟨x,y,q1,q2,k1,q3,q4,q5⟩
   ·have hab:=habs q.1 rfl (by rw[←hkq]; exact Qvm hk q1)
    rw[q2,hab]
    cases c with
    | sl e u=>exact .inl hz
    | mp k v=>cases hab
   ·rw[q2]
    exact q5 (by rw[←(Uy hk).1 q3,hkq]; rfl)
  cases hx:Qnn c (Qh M q.2)with
  | none=>rw[hx]at hq; cases hq
  | some x0 =>
   have hob:=hM _ _ (Qrp hx)
   cases c with
   | sl e u =>
    obtain⟨_,cs,hown,_⟩:=hob
    refine⟨[(Qr key ys).getD z],rfl,⟨_,rfl,hzal⟩,?_⟩
    rcases hown.2 with⟨hv,_⟩ | ⟨g,cap,cur,fz,hv,_⟩<;>exact⟨_,_,_,hv⟩
   | mp k v =>
    rcases hzal with h1 | ⟨h1,_⟩
    ·exact⟨[.map (some (β q.2))],h1,rfl⟩
    ·cases h1
 ·have:Qr key ys=none:=by
   grind [Qlh]
  rw[this]
  exact⟨[.map none],hz,rfl⟩
section
variable {P:Program} {Y:TX} {X:Cx} {S:XS} {β β':Nat→Nat} {ρ ρ':Nat→Value} {a a':Act} {w w':World} {n:Nat}
variable {ops:Array Oper} {Q:Exit→Act→World→Prop} {rest:List Oper} {R:Type} {k:XS→Option R} {r:R}
theorem Q8a(hX:X.n=n)(hr:X.res=[])(h:Rel X β ρ S.flat a w){o:Oper}(hw:Region.wanted o (yielded ops a.tmps)=true){d:Nat}(hd:o.dst=some d)(hwd:okW n S d=true)(hb:okB S d=true){t:TypeId}(hop:o.op=.makeMap t none){kk:Ty}{c:CK}
  (hk:k ((S.born d (.mapC kk c [] none)).put d [] (.m d))=some r) (H:KOk P ops Q rest X S β ρ k r):wpList P ops Q (o::rest) a w:=by
 obtain⟨h1,h2⟩:=Vt hwd hX hr
 obtain⟨f1,f2,f3⟩:=Fv hb
 have hrun:(execOp a.eval o).run P w=.ok (.value (.map (some w.heap.size))) (w.alloc (.map #[] 0)):=by
  simp_all [execOp,Instr.makeMap]
 refine Jw hw (Yj hrun ?_)
 rw[hd]
 have ha:=Qln d β ρ w.heap.size (.tuple #[])
 have hbel:Below w.heap.size w (w.alloc (.map #[] 0)):=(Below.refl _ _).alloc (QG _) _
 refine H (upd β d w.heap.size) (upd ρ d (.tuple #[])) _ _ _ hk (Z5 f3 ha _ _ _) ?_
 have hA:Rel X (upd β d w.heap.size) (upd ρ d (.tuple #[])) ⟨Vc (Uf d S.env) d++S.fix,(d,.mapC kk c [] none)::(S.mem++S.fixM)⟩ a (w.alloc (.map #[] 0)):=by
  refine Rel.alloc h ha f1 (fun e he=>let⟨q1,q2,_⟩:=Ny f2 h2 e he; ⟨q1,q2⟩) hbel (fun g hg=>?_) ?_
  ·have hg':g=upd β d w.heap.size d∨∃v∈Qaa (upd ρ d (.tuple #[]) d),Xl v=some g:=hg
   rw[Jl,Jl]at hg'
   rcases hg' with hg' | ⟨v,hv,_⟩
   ·omega
   ·cases hv
  ·refine⟨[],⟨#[],0,?_,rfl,by simp,by simp⟩,?_,by simp,?_,?_,fun _ e=>by cases e⟩
   ·rw[Jl]; exact heap_alloc_new w _
   ·rw[Jl]; trivial
   ·rw[Jl]; exact .nil
   grind [Jl,Qaa]
 have hP:=hA.put0 h1 (x:=.m d) (c:=[.map (some (upd β d w.heap.size d))]) rfl
 have hv:(AV.m d).val [.map (some (upd β d w.heap.size d))]=.map (some w.heap.size):=by rw[Jl]; rfl
 rw[hv]at hP
 have he:((S.born d (.mapC kk c [] none)).put d [] (.m d)).flat=⟨⟨d,[],.m d⟩::(Vc (Uf d S.env) d++S.fix),(d,.mapC kk c [] none)::(S.mem++S.fixM)⟩:=rfl
 rw[he]
 refine hP.less fun e hm=>?_
 rcases QX.1 hm with rfl | hm
 ·exact .head _
 ·refine .tail _ ?_
  have:Vc (Vc (Uf d S.env) d++S.fix) d=Vc (Uf d S.env) d++S.fix:=by
   rw[Ix h2]
   congr 1
   have idem:∀l:List En,Vc (Vc l d) d=Vc l d:=by
    intro l
    induction l with
    | nil=>rfl
    | cons x l ih =>
     simp only[Vc]
     cases hb:(Nat.beq x.t d||Qc6 d x.cs)with
     | true=>simpa using ih
     | false=>simp_all [cond_false,Vc]
   exact idem _
  show e∈Vc (Vc (Uf d S.env) d++S.fix) d
  rw[this]; exact hm
theorem Jjb{β:Nat→Nat}{ρ:Nat→Value}{ok:Ok}{a:Act}{w:World}{S:St}(h:Dw β ρ ok S a w){cur:Vk}(hc:Jx a cur){ky:Operand}{kv:AV}(hkv:Gx.ev S cur ky=some kv){kk:Ty}{key:kk.De}(hkey:asD [] kv kk=some key){d:TypeDesc}{T:Tab}(hdk:Vl T kk d=true)(hka:(kk.agg==kv.isAgg)=true):a.eval ky=Y9 kk key:=by
 obtain⟨c3,h3,h4⟩:=h.ev hc hkv
 refine Is (ok:=ok) (w:=w) (Ue hdk) ⟨c3,Wo (M:=[]) (β:=β) (ρ:=ρ) (by simp[Qh]) hkey h4,?_⟩
 rw[h3]; simp_all [AV.val,RT.val,Nn,bEq]
theorem Q2x(hT:Q9 P Y.T)(hX:X.n=n)(hr:X.res=[])(h:Rel X β ρ S.flat a w){o:Oper}(hw:Region.wanted o (yielded ops a.tmps)=true)(hs:Qgt Y n o S k=some r)(H:KOk P ops Q rest X S β ρ k r):wpList P ops Q (o::rest) a w:=by
 unfold Qgt at hs
 split at hs
 ·rename_i t m ps d hop hd
  split at hs
  ·rename_i te hte
   split at hs
   ·rename_i e htd0
    split at hs
    ·rename_i ee u vs he hu hvs
     split at hs
     ·rename_i xs hxs
      obtain⟨hb,hk⟩:=bvT hs
      simp only[QJ]at hb
      obtain⟨⟨⟨⟨⟨⟨hwd,hbb⟩,hsz⟩,hl⟩,hsm⟩,hpos⟩,hzl⟩:=hb
      have htd:=Yz htd0
      obtain⟨f1,f2,f3⟩:=Fv hbb
      obtain⟨h1,h2⟩:=Vt hwd hX hr
      have hg:=Nx h hw
      obtain⟨us,q1,q2,q3,q4⟩:=Qy1 h hvs hxs
      have hes:=Nat.eq_of_beq_eq_true hsz
      have hxl:=Nat.eq_of_beq_eq_true hl
      have hcl:∀v∈us,(Qv v).length=ee.size:=fun v hv=>by rw[Qle q2 v hv,Jn,hes]
      have hz0:(Zz (Qv ee.z) ((m+1)*ee.size)).length=(m+1)*ee.size:=by simp[Zz]
      have hfill:=Q2c us 0 (Zz (Qv ee.z) ((m+1)*ee.size)) hcl (by rw[hz0,QY,q3,hxl]; grind)
      rw[←q1]at hfill
      have hfill':Nl (Qc0 ee.size) (Zz (Qv ee.z) ((m+1)*ee.size)) (ps.map (fun p=>(p.1,a.eval p.2)))=some (us.flatMap Qv):=by
       rw[hfill]
       grind
      rw[D1 o,hd,hop]at hg ⊢
      refine Q2u hT h.toG (r:=rt u) hg h1 q4 hte htd he (by rw[Jn]; exact hes) hxl hsm hpos (XF (JQ _)) hzl hfill' q2 fun b a' w' hS=>?_
      refine H β (upd ρ d (.slice (some ⟨b,0,none⟩) xs.length (m+1))) _ _ _ hk (Z5 f3 (J8 d β ρ _) _ _ _) ?_
      have:=K0 (o:=.row e u xs) hX hr h.sz hwd f1 f2 f3 hS (by grind [Q4,Jl,Hi.refl]) ⟨_,_,_,rfl⟩
      exact this
     ·cases hs
    ·cases hs
   ·cases hs
  ·cases hs
 ·
  rename_i t rs d hop hd
  split at hs
  ·rename_i te hte
   split at hs
   ·rename_i kt et htd
    split at hs
    ·rename_i kk c hkk hc
     obtain⟨hb,hk⟩:=bvT hs
     simp only[QJ]at hb
     have hrs:=Qfi hb.2
     grind [Q8a]
    ·cases hs
   ·cases hs
  ·cases hs
 ·
  rename_i t m ky x hop hd
  split at hs
  ·rename_i te id kv xv hte hm hkv hx
   split at hs
   ·rename_i kt et kk c xs hole htd hmo
    split at hs
    ·rename_i tk key htk hkey
     obtain⟨hb,hs⟩:=bvT hs
     simp only[QJ]at hb
     grind [Js5]
    ·cases hs
   ·cases hs
  ·cases hs
 ·
  rename_i t m ky d hop hd
  split at hs
  ·rename_i te kv hte hkv
   split at hs
   ·rename_i kt et htd
    split at hs
    ·rename_i tk tz id htk htz hm
     split at hs
     ·rename_i kk c xs hole hmo
      split at hs
      ·rename_i key hkey
       replace hs:=bvT hs
       obtain⟨hb,hs⟩:=hs
       simp only[QJ]at hb
       obtain⟨⟨⟨hwd,hdk⟩,hka⟩,hz⟩:=hb
       have gen:∀av,((∃q,hole=some q∧Fk (Qnn c (Qh S.flat.mem q.2))=true∧eqK kk key q.1=true∧av=avC c q.2)∨(hole=none∧(∃k v,c=.mp k v)∧Qr key xs=none∧av=.nm))→k (S.put d [] av)=some r→wpList P ops Q (o::rest) a w:=by
        intro av hav hk
        refine Jix hX hr h hw hd hwd (x:=av) (fun {β ρ ok a w} h hc=>?_) hk H
        obtain⟨c1,h1,h2⟩:=h.ev hc hm
        have h2':c1=[.map (some (β id))]:=h2
        subst h2'
        have h1':a.eval m=.map (some (β id)):=h1
        have hke:=Jjb h hc hkv hkey hdk hka
        obtain⟨ys,⟨es,clock,hg,hp,_⟩,hrel,_,_,_,habs⟩:=h.mm _ _ hmo
        obtain⟨v,hrun,hv,_⟩:=Qq1 hT hte htd htk htz hdk hg hp key (z:=tz.z) ⟨[tz.z],⟨rfl,by rw[Qv6 hz]; exact Ji9⟩,rfl⟩ false
        obtain⟨cs0,⟨e0,_⟩,hv⟩:=hv
        have hv:v=(Qr key ys).getD tz.z:=by rw[hv,e0]; rfl
        obtain⟨cs,q1,q2⟩:=Jja (R:=R) h.mm (Ue hdk) hrel habs hz hav
        refine⟨cs,?_,q2⟩
        unfold execOp
        rw[hop]
        simp only[h1',hke]
        simp only[JZ,if_false]at hrun
        simp[hrun,hv,q1]
       unfold Q70 at hs
       split at hs
       ·rename_i q
        replace hs:=bvT hs
        obtain⟨hq,hs⟩:=hs
        obtain⟨_,hch,hk⟩:=Yt hs
        unfold chk at hch
        grind
       ·rename_i k2 v2 xs
        obtain⟨_,hch,hk⟩:=Yt hs
        unfold chk at hch
        exact gen _ (.inr ⟨rfl,⟨_,_,rfl⟩,Qfi (bvT hch).1,rfl⟩) hk
       ·cases hs
      ·cases hs
     grind [Qv5]
    ·rename_i tk tz htk htz hm
     split at hs
     ·rename_i kk v hkk hvv
      split at hs
      ·rename_i key za hkey hza
       split at hs
       ·rename_i z hz
        obtain⟨hb,hk⟩:=bvT hs
        simp only[QJ]at hb
        obtain⟨⟨⟨hwd,hdk⟩,hka⟩,hva⟩:=hb
        refine Jix hX hr h hw hd hwd (x:=.d v z) (fun {β ρ ok a w} h hc=>?_) hk H
        obtain⟨c1,h1,h2⟩:=h.ev hc hm
        have h2':c1=[.map none]:=h2
        subst h2'
        have h1':a.eval m=.map none:=h1
        have hke:=Jjb h hc hkv hkey hdk hka
        have hrun:=Qui (w:=w) hT hte htd htk htz hdk key false
        refine⟨Qv tz.z,?_,Wo (M:=[]) (β:=β) (ρ:=ρ) (by simp[Qh]) hz (Nf hza)⟩
        have hvz:(AV.d v z).val (Qv tz.z)=tz.z:=by
         have:=Qvl (bEq hva)
         grind [AV.val,AV.isAgg,RT.val,Nn]
        unfold execOp
        rw[hop]
        simp only[h1',hke,hvz]
        simp only[JZ,if_false]at hrun
        simp[hrun]
       ·cases hs
      ·cases hs
     ·cases hs
    ·cases hs
   ·cases hs
  ·cases hs
 ·cases hs
end
end Gx

/- Calls. -/
namespace Gx
open Go Go.RowKit Gd
set_option linter.unusedVariables false
set_option linter.unusedSimpArgs false
def Q2y(c:Con)(β:Nat→Nat)(ρ:Nat→Value)(ok:Ok)(L:List Nat)(w:World)(x:c.Γ.De)(y:Qcl c.Δ)(v:Value)(w':World):Prop :=
 ∃(β':Nat→Nat) (ρ':Nat→Value),agP (c.Γ.mem.map Prod.fst) β β' ρ ρ' ∧
  (∃cs,v=(Sq (Qdc c.Δ y).env).val cs∧cr β' ρ' (Jk (okL L ok) w.heap.size (fun _=>0) [] (Qk β' ρ' ((Qdc c.Δ y).mem++roM c x)) w') w' false (Sq (Qdc c.Δ y).env) cs) ∧
  (∀t∈Qk β' ρ' ((Qdc c.Δ y).mem++roM c x),t.p (Jk (okL L ok) w.heap.size (fun _=>0) [] (Qk β' ρ' ((Qdc c.Δ y).mem++roM c x)) w') w'∧∀g,t.blks g→w.heap.size≤g∨g∈L) ∧
  (Qk β' ρ' ((Qdc c.Δ y).mem++roM c x)).Pairwise fun s t=>∀g,s.blks g→¬ t.blks g
def Uq(gl:List (Nat×Σ t:Ty,t.De))(ok:Ok)(w:World):Prop :=
 ∀q∈gl,Qky (rt q.2.1) ok w q.2.2 (.pointer (some ⟨q.1,0,none⟩))∧ok q.1 0∧∃cs t fz,w.heap[q.1]?=some (.cells cs t fz)∧cs.size=q.2.1.size
theorem Uq.keep{gl:List (Nat×Σ t:Ty,t.De)}{ok:Ok}{w w':World}(h:Uq gl ok w)(hs:w.heap.size≤w'.heap.size)(hb:∀b o,ok b o→w'.heap[b]?=w.heap[b]?):Uq gl ok w' :=
 fun q hq=>let⟨h1,h2,h3⟩:=h q hq; ⟨h1.evo (Evo.of_blocks hs hb),h2,by rw[hb _ _ h2]; exact h3⟩
theorem Uq.weak{gl:List (Nat×Σ t:Ty,t.De)}{ok ok':Ok}{w:World}(h:Uq gl ok w)(hk:∀b o,ok b o→ok' b o):Uq gl ok' w:=fun q hq=>let⟨h1,h2,h3⟩:=h q hq; ⟨h1.weak hk,hk _ _ h2,h3⟩
def okN(X:Cx):Ok:=fun b o=>X.ok b o∧b∉X.lent∧b<X.w.heap.size
theorem Ss{gl:List (Nat×Σ t:Ty,t.De)}{X:Cx}{β:Nat→Nat}{G:GL}{D:List DF}{O:List TL}{a:Act}{w:World}(h:Sb β X G D [] O a w)(hG:Uq gl (okN X) X.w):Uq gl (Jk X.ok X.w.heap.size β [] O w) w:=by
 refine(hG.keep h.bel.size fun b o hk=>h.bel.block b hk.2.2 hk.2.1).weak fun b o hk=>⟨.inl hk.1,QP hk.2.2 h.bel.size,by simp,fun t ht hc=>?_⟩
 rcases(h.own t ht).2 b (t.cb hc)with h1 | h1
 ·have:=hk.2.2; omega
 ·exact hk.2.1 h1
def Qgv(P:Program)(gl:List (Nat×Σ t:Ty,t.De))(c:Con):Prop :=
 ∀(ok:Ok) (w:World) (L:List Nat) (β:Nat→Nat) (ρ:Nat→Value) (x:c.Γ.De) (y:Qcl c.Δ) (vs:List Value),(∀b o,ok b o→b<w.heap.size)→Uq gl ok w→vs.length=c.Γ.env.length→Qnf (Qk β ρ (enc c.Γ x).mem) L ok w →
  (∀e∈(enc c.Γ x).env,∃cs,vs[e.t]?=some (e.av.val cs)∧cr β ρ ok w false e.av cs)→c.fn x=some y→Calls P c.f ⟨vs⟩ w (Qyf L w (Q2y c β ρ ok L w x y))
section
variable {β β':Nat→Nat} {ρ ρ':Nat→Value} {ok:Ok} {w:World}
theorem Qaj{g:Nat→Nat}:∀{m:Bool} {x:AV} {cs:List Value},(∀i∈Jg x,β' (g i)=β i∧ρ' (g i)=ρ i)→cr β ρ ok w m x cs→cr β' ρ' ok w m (Wh g x) cs
 | m,.d t x,cs,_,h=>by cases m<;>exact h
 | m,.p id path,cs,hn,h=>by
  have:=(hn id (.head _)).1
  cases m<;>(grind [cr,Wh])
 | m,.e id path,cs,hn,h=>by
  have:=(hn id (.head _)).2
  cases m<;>(grind [cr,Wh])
 | m,.s id,cs,hn,h=>by
  have:=(hn id (.head _)).2
  cases m<;>(grind [cr,Wh])
 | m,.m id,cs,hn,h=>by
  have:=(hn id (.head _)).1
  cases m<;>(grind [cr,Wh])
 | m,.b id,cs,hn,h=>by
  have:=(hn id (.head _)).1
  cases m<;>(grind [cr,Wh])
 | m,.w id _ _,cs,hn,h=>by
  have:=(hn id (.head _)).1
  cases m<;>(grind [cr,Wh])
 | m,.a t x,cs,_,h=>by cases m<;>exact h
 | m,.z,cs,_,h=>by cases m<;>exact h
 | m,.ns,cs,_,h=>by cases m<;>exact h
 | m,.np,cs,_,h=>by cases m<;>exact h
 | m,.nm,cs,_,h=>by cases m<;>exact h
 | m,.nf,cs,_,h=>by cases m<;>exact h
 | m,.f fn caps,cs,hn,h=>by cases m<;>exact let⟨vs,h1,h2⟩:=h; ⟨vs,h1,Qaj (fun i hi=>hn i (by grind [Jg])) h2⟩
 | m,.ag l,cs,hn,h=>by cases m<;>exact Qaj (m:=false) (x:=l) (fun i hi=>hn i (by grind [Jg])) h
 | m,.tp l,cs,hn,h=>by cases m<;>exact let⟨vs,h1,h2⟩:=h; ⟨vs,h1,Qaj (fun i hi=>hn i (by grind [Jg])) h2⟩
 | m,.nil,cs,_,h=>by cases m<;>exact h
 | true,.cons x r,cs,hn,h=>by
  obtain⟨c1,vs,h1,h2,h3⟩:=h
  refine⟨c1,vs,?_,Qaj (fun i hi=>hn i (by simp[Jg,hi])) h2,Qaj (fun i hi=>hn i (by simp[Jg,hi])) h3⟩
  rw[h1]; cases x<;>rfl
 | false,.cons x r,cs,hn,h=>by
  exact let⟨c1,vs,h1,h2,h3⟩:=h; ⟨c1,vs,h1,Qaj (fun i hi=>hn i (by simp[Jg,hi])) h2,Qaj (fun i hi=>hn i (by simp[Jg,hi])) h3⟩
theorem Jom(g:Nat→Nat)(x:AV)(cs:List Value):(Wh g x).val cs=x.val cs:=by cases x<;>rfl
theorem Qy4{g:Nat→Nat}:∀{l:List (Nat×Ob)},(∀i∈Jp l,β' (g i)=β i∧ρ' (g i)=ρ i)→Wg (Qk β ρ l) (Qk β' ρ' (Wp g l))
 | [],_=>.nil
 | (id,o)::l,h=>by
  have h1:=h id (by
   cases o with
   | mapC k v xs hole=>cases hole<;>simp[Jp]
   | _=>simp[Jp])
  refine .cons ?_ (Qy4 fun i hi=>h i (by
   cases o with
   | mapC k v xs hole=>cases hole<;>simp[Jp,hi]
   | _=>simp[Jp,hi]))
  cases o with
  | var t c =>
   refine⟨fun b=>by grind [Q4,Qqw,Qll],fun b o=>by grind [Q4,Qqw,Qll],fun ok w hp=>?_⟩
   obtain⟨cs,hh,hc⟩:=hp
   exact⟨cs,by rw[h1.1]; exact hh,Qaj (fun i hi=>h i (by simp[Jp,hi])) hc⟩
  | row e t xs=>grind [Q4,Qll,Hi.refl]
  | tail e t xs=>grind [Q4,Qll,Hi.refl]
  | map k v xs=>grind [Q4,Qll,Hi.refl]
  | mapC k v xs hole =>
   cases hole with
   | none=>simp_all [Q4,Qll,Np,Hi.refl]
   | some q =>
    have h2:=h q.2 (by simp[Jp])
    cases v<;>(grind [Q4,Qll,Np,Q10,Hi.refl])
theorem Qv7{l:List (Nat×Ob)}(h:∀i∈Jp l,β' i=β i∧ρ' i=ρ i):Wg (Qk β ρ l) (Qk β' ρ' l):=by
 have:=Qy4 (g:=id) (β':=β') (ρ':=ρ') h
 have e:Wp id l=l:=by
  have hav:∀x:AV,Wh id x=x:=by intro x; induction x<;>simp_all [Wh]
  have:∀q:Nat×Ob,(id q.1,Qll id q.2)=q:=by intro q; obtain⟨i,o⟩:=q; cases o with
   | mapC k v xs hole=>cases hole<;>simp[Qll]
   | _=>simp[Qll,hav]
  simp_all [Wp,List.map_congr_left]
 rw[e]at this
 exact this
end
theorem Su{c t:Nat}(hne:t≠c):∀M:List (Nat×Ob),Qh (J3 M t) c=Qh M c
 | []=>rfl
 | q::l=>by
  simp only[J3,Qh]
  cases hb:Nat.beq q.1 t with
  | true =>
   have h1:=Nat.eq_of_beq_eq_true hb
   grind [Nat.beq,absurd,Nat.eq_of_beq_eq_true]
  | false =>
   simp only[cond_false,Qh,Su hne l]
theorem K1:∀(ids:List Nat) (M:List (Nat×Ob)),((Jt M ids).2++(Jt M ids).1).Perm M
 | [],M=>by simp[Jt]
 | t::ts,M=>by
  simp only[Jt]
  split
  ·rename_i o ho
   obtain⟨l1,l2,h1,_,h3⟩:=J2 ho
   have:=K1 ts (J3 M t)
   simp only[QM]
   refine(List.Perm.cons _ this).trans ?_
   rw[h3,h1]
   exact List.perm_middle.symm
  ·exact K1 ts M
theorem Qak:∀{ids:List Nat} {M:List (Nat×Ob)} {c:Nat} {o:Ob},ids.Nodup→c∈ids→Qh M c=some o→(c,o)∈(Jt M ids).2
 | t::ts,M,c,o,hn,hc,ho=>by
  have hn':=JW.1 hn
  simp only[Jt]
  rcases QX.1 hc with rfl | hc
  ·rw[ho]; exact .head _
  ·have hne:t≠c:=fun e=>hn'.1 (e▸hc)
   split
   ·exact .tail _ (Qak hn'.2 hc (by rw[Su hne]; exact ho))
   ·exact Qak hn'.2 hc ho
theorem Qal:∀{ids:List Nat} {M:List (Nat×Ob)},ids.Nodup→∀q∈(Jt M ids).2,q.1∈ids∧Qh M q.1=some q.2
 | [],M,_,q,hq=>by simp[Jt]at hq
 | t::ts,M,hn,q,hq=>by
  have hn':=JW.1 hn
  simp only[Jt]at hq
  split at hq
  ·rename_i o ho
   rcases QX.1 hq with rfl | hq
   ·grind
   ·obtain⟨h1,h2⟩:=Qal hn'.2 q hq
    grind [Su]
  ·obtain⟨h1,h2⟩:=Qal hn'.2 q hq
   grind
theorem Qls:∀{Γe:List (Nat×Sk)} {l:List DV},∀e∈(Ly Γe l).1,e.cs=[]
 | [],l,e,he=>by simp[Ly]at he
 | (t,s)::g,l,e,he=>by
  simp only[Ly]at he
  rcases QX.1 he with rfl | he
  ·rfl
  ·exact Qls e he
theorem Pr{ri:List (Nat×Nat)}:∀{Γm:List (Nat×SkO)} {id c:Nat},id∈Γm.map Prod.fst→Jo ri id=some c→c∈Yb ri Γm
 | (k,s)::l,id,c,h,hc=>by
  simp only[Yb]
  rcases QX.1 h with e | h
  ·grind
  ·split
   ·exact .tail _ (Pr h hc)
   ·exact Pr h hc
theorem As{ri:List (Nat×Nat)}:∀{Γm:List (Nat×SkO)} {c:Nat},c∈Yb ri Γm→∃id∈Γm.map Prod.fst,Jo ri id=some c
 | (k,s)::l,c,h=>by
  simp only[Yb]at h
  split at h
  ·rename_i x hx
   rcases QX.1 h with rfl | h
   ·grind
   ·obtain⟨id,h1,h2⟩:=As h; grind
  ·obtain⟨id,h1,h2⟩:=As h; grind
theorem Im{ri:List (Nat×Nat)}:∀{Γm:List (Nat×SkO)} {cs:List Nat},Bh ri Γm cs=true→(Yb ri Γm).Nodup∧∀c∈Yb ri Γm,c∉cs
 | [],_,_=>⟨.nil,by simp[Yb]⟩
 | (id,s)::l,cs,h=>by
  simp only[Bh]at h
  simp only[Yb]
  split at h
  ·rename_i c hc
   simp only[QJ]at h
   obtain⟨h1,h2⟩:=Im h.2
   refine⟨JW.2 ⟨fun hm=>h2 c hm (.head _),h1⟩,fun x hx=>?_⟩
   rcases QX.1 hx with rfl | hx
   ·grind [Xm]
   grind
  ·exact Im h
theorem Ty.cast_self(t:Ty)(x:t.De):Ty.cast t t x=some x:=by
 simp[Ty.cast,dif_pos,Ty.beq_refl]
theorem Sv{M:List (Nat×Ob)}{ri:List (Nat×Nat)}{pr:List Nat}{g:Nat→Nat}(hg:∀i c,Jo ri i=some c→g i=c):∀{sk:Sk} {x:AV} {l:List DV} (rest:List DV),Up M ri pr sk x=some l→∃y,Nt sk (l++rest)=(y,rest)∧(Qhk sk x=true→Wh g y=x)
 | .d t,x,l,rest,h=>by
  simp only[Up]at h
  split at h
  ·rename_i z0 hz
   obtain⟨_,h⟩:=bvT h
   simp only[Option.some.injEq]at h
   subst h
   refine⟨.d t z0,rfl,fun hs=>?_⟩
   cases x<;>first | (cases hs; done) | skip
   rename_i t' x'
   simp only[asD]at hz
   obtain⟨e,h2⟩:=Ty.cast_ok hz
   subst e; subst h2
   rfl
  ·cases h
 | .p id path,x,l,rest,h=>by
  cases x<;>simp only[Up]at h<;>first | (cases h; done) | skip
  rename_i c path'
  obtain⟨hb,h⟩:=bvT h
  simp only[QJ]at hb
  simp only[Option.some.injEq]at h
  subst h
  exact⟨.p id path,rfl,fun _=>by simp only[Wh]; rw[hg _ _ (Qfh hb.1),Qlo hb.2]⟩
 | .s id,x,l,rest,h=>by
  cases x<;>simp only[Up]at h<;>first | (cases h; done) | skip
  ·rename_i c
   obtain⟨hb,h⟩:=bvT h
   simp only[QJ]at hb
   simp only[Option.some.injEq]at h
   subst h
   exact⟨.s id,rfl,fun _=>by simp only[Wh]; rw[hg _ _ (Qfh hb.1)]⟩
  ·obtain⟨hb,h⟩:=bvT h
   simp only[Option.some.injEq]at h
   subst h
   exact⟨.s id,rfl,fun hs=>by cases hs⟩
 | .m id,x,l,rest,h=>by
  cases x<;>simp only[Up]at h<;>first | (cases h; done) | skip
  rename_i c
  obtain⟨hb,h⟩:=bvT h
  simp only[Option.some.injEq]at h
  subst h
  exact⟨.m id,rfl,fun _=>by simp only[Wh]; rw[hg _ _ (Qfh hb)]⟩
 | .ns,x,l,rest,h=>by
  cases x<;>simp only[Up]at h<;>first | (cases h; done) | skip
  simp only[Option.some.injEq]at h; subst h; exact⟨_,rfl,fun _=>rfl⟩
 | .np,x,l,rest,h=>by
  cases x<;>simp only[Up]at h<;>first | (cases h; done) | skip
  simp only[Option.some.injEq]at h; subst h; exact⟨_,rfl,fun _=>rfl⟩
 | .nm,x,l,rest,h=>by
  cases x<;>simp only[Up]at h<;>first | (cases h; done) | skip
  simp only[Option.some.injEq]at h; subst h; exact⟨_,rfl,fun _=>rfl⟩
 | .nf,x,l,rest,h=>by
  cases x<;>simp only[Up]at h<;>first | (cases h; done) | skip
  simp only[Option.some.injEq]at h; subst h; exact⟨_,rfl,fun _=>rfl⟩
 | .z,x,l,rest,h=>by
  cases x<;>simp only[Up]at h<;>first | (cases h; done) | skip
  simp only[Option.some.injEq]at h; subst h; exact⟨_,rfl,fun _=>rfl⟩
 | .nil,x,l,rest,h=>by
  cases x<;>simp only[Up]at h<;>first | (cases h; done) | skip
  simp only[Option.some.injEq]at h; subst h; exact⟨_,rfl,fun _=>rfl⟩
 | .f fn c,x,l,rest,h=>by
  cases x<;>simp only[Up]at h<;>first | (cases h; done) | skip
  rename_i fn' x'
  obtain⟨hb,h⟩:=bvT h
  simp only[QJ]at hb
  obtain⟨y,h1,h2⟩:=Sv hg rest h
  refine⟨.f fn y,by grind [Nt],fun hs=>?_⟩
  simp only[Wh]
  rw[h2 hs,Nat.eq_of_beq_eq_true hb.1]
 | .ag l',x,l,rest,h=>by
  simp only[Up]at h
  split at h
  ·rename_i y hy
   obtain⟨z0,h1,h2⟩:=Sv hg rest h
   refine⟨.ag z0,by grind [Nt],fun hs=>?_⟩
   cases x<;>first | (cases hs; done) | skip
   simp only[Qad,Option.some.injEq]at hy
   subst hy
   simp only[Wh]
   rw[h2 hs]
  ·cases h
 | .cons a b,x,l,rest,h=>by
  cases x<;>simp only[Up]at h<;>first | (cases h; done) | skip
  split at h
  ·rename_i u v hu hv
   simp only[Option.some.injEq]at h
   subst h
   obtain⟨y1,p1,p2⟩:=Sv hg (v++rest) hu
   obtain⟨y2,q1,q2⟩:=Sv hg rest hv
   simp_all [Nt,List.append_assoc,Qhk,QJ,Wh]
  ·cases h
theorem Jjc{M:List (Nat×Ob)}{ri:List (Nat×Nat)}{pr:List Nat}{g:Nat→Nat}(hg:∀i c,Jo ri i=some c→g i=c){s:SkO}{o:Option Ob}{l:List DV}(rest:List DV)(h:Sp M ri pr s o=some l):∃ob',Qdb s (l++rest)=some (ob',rest)∧∀ob,o=some ob→Jp7 s ob=true→Qll g ob'=ob:=by
 have cs:∀{t:Ty} {x:t.De},Ty.cast t t x=some x:=fun {t x}=>Ty.cast_self t x
 cases s with
 | var tid c =>
  cases o with
  | none=>cases h
  | some ob =>
   cases ob<;>simp only[Sp]at h<;>first | (cases h; done) | skip
   obtain⟨hb,h'⟩:=bvT h
   obtain⟨y,h1,h2⟩:=Sv hg rest h'
   refine⟨.var tid y,by grind [Qdb],fun ob he hs=>?_⟩
   injection he with he; subst he
   simp only[Qll]
   rw[h2 hs,Nat.eq_of_beq_eq_true hb]
 | row e t =>
  cases o with
  | none =>
   simp only[Sp,Option.some.injEq]at h
   subst h
   simp_all [Qdb,QM,QV]
  | some ob =>
   cases ob<;>simp only[Sp]at h<;>first | (cases h; done) | skip
   rename_i e' t' xs
   obtain⟨hb,h'⟩:=bvT h
   simp only[QJ]at hb
   have e1:=Nat.eq_of_beq_eq_true hb.1
   have e2:=Ty.beq_eq hb.2
   clear h hb
   subst e1; subst e2
   injection h' with h'
   subst h'
   refine⟨.row e t xs,by grind [Qdb],fun ob he hs=>?_⟩
   injection he
 | tail e t =>
  cases o with
  | none =>
   simp only[Sp,Option.some.injEq]at h
   subst h
   simp_all [Qdb,QM,QV]
  | some ob =>
   cases ob<;>simp only[Sp]at h<;>first | (cases h; done) | skip
   rename_i e' t' xs
   obtain⟨hb,h'⟩:=bvT h
   simp only[QJ]at hb
   have e1:=Nat.eq_of_beq_eq_true hb.1
   have e2:=Ty.beq_eq hb.2
   clear h hb
   subst e1; subst e2
   injection h' with h'
   subst h'
   refine⟨.tail e t xs,by grind [Qdb],fun ob he hs=>?_⟩
   injection he
 | map k u =>
  cases o with
  | none=>cases h
  | some ob =>
   cases ob<;>simp only[Sp]at h<;>first | (cases h; done) | skip
   rename_i k' u' xs
   obtain⟨hb,h'⟩:=bvT h
   simp only[QJ]at hb
   have e1:=Ty.beq_eq hb.1
   have e2:=Ty.beq_eq hb.2
   clear h hb
   subst e1; subst e2
   injection h' with h'
   subst h'
   refine⟨.map k u xs,by grind [Qdb],fun ob he hs=>?_⟩
   injection he
 | mapC k u =>
  cases o with
  | none=>cases h
  | some ob =>
   cases ob<;>simp only[Sp]at h<;>first | (cases h; done) | skip
   rename_i k' u' xs hole
   obtain⟨hb,h'⟩:=bvT h
   simp only[QJ]at hb
   have e1:=Ty.beq_eq hb.1.1
   have e2:=CK.beq_eq hb.1.2
   clear h
   subst e1; subst e2
   injection h' with h'
   subst h'
   exact⟨.mapC k u xs none,by grind [Qdb],fun ob he hs=>by cases ob<;>cases hs⟩
theorem Q2z{ro:List Nat}{id:Nat}{s:SkO}{G:List (Nat×SkO)}:rdG ro ((id,s)::G)=bif Yl ro id then(id,s)::rdG ro G else rdG ro G:=by
 grind [rdG,Yl,id]
theorem Jjd{ro:List Nat}{id:Nat}{s:Ob}{G:List (Nat×Ob)}:rdM ro ((id,s)::G)=bif Yl ro id then(id,s)::rdM ro G else rdM ro G:=by
 grind [rdM,Yl,id]
theorem Qv8{id:Nat}{ob:Ob}:Kz id (some ob)=some (id,ob):=rfl
theorem Qy5{M:List (Nat×Ob)}{ri:List (Nat×Nat)}{pr ro:List Nat}{g:Nat→Nat}(hg:∀i c,Jo ri i=some c→g i=c):∀{Γm:List (Nat×SkO)} {l:List DV},Rc M [] ri pr Γm=some l→Qvr ri M (rdG ro Γm)=true →
  Wp g (rdM ro (Xc Γm l))=(Yb ri (rdG ro Γm)).filterMap fun t=>Kz t (Qh M t)
 | [],l,h,hs=>by simp only[Rc,Option.some.injEq]at h; subst h; rfl
 | (id,s)::G,l,h,hs=>by
  simp only[Rc]at h
  split at h
  ·rename_i o ho
   split at h
   ·rename_i u v hu hv
    simp only[Option.some.injEq]at h
    subst h
    obtain⟨ob',h1,h2⟩:=Jjc hg v hu
    simp only[Xc,h1]
    rw[Jjd,Q2z]
    rw[Q2z]at hs
    cases hm:Yl ro id with
    | false =>
     rw[hm]at hs
     exact Qy5 hg hv hs
    | true =>
     rw[hm]at hs
     simp only[cond_true,Qvr,QJ]at hs ⊢
     obtain⟨hs1,hs2⟩:=hs
     split at hs1
     ·rename_i c hc
      split at hs1
      ·rename_i ob hob
       have ho':o=some ob:=by
        grind [Jau,Option.some.injEq]
       have ih:=Qy5 hg hv hs2
       grind [Wp,Yb,Qv8]
      ·cases hs1
     ·cases hs1
   ·cases h
  ·cases h
theorem Qam{c:Nat}:∀{ts:List Nat} {M:List (Nat×Ob)},c∉ts→Qh (Jt M ts).1 c=Qh M c
 | [],M,_=>rfl
 | t::ts,M,h=>by
  have h1:t≠c:=fun e=>h (e▸.head _)
  have h2:c∉ts:=fun hm=>h (.tail _ hm)
  simp only[Jt]
  split
  ·rw[Qam h2,Su h1]
  ·exact Qam h2
theorem Jta{α β:Type}{f g:α→Option β}:∀{l:List α},(∀x∈l,f x=g x)→l.filterMap f=l.filterMap g
 | [],_=>rfl
 | x::l,h=>by
  simp only[JR]
  rw[h x (.head _),Jta fun y hy=>h y (.tail _ hy)]
theorem Rh:∀{ids:List Nat} {M:List (Nat×Ob)},ids.Nodup→(Jt M ids).2=ids.filterMap fun t=>Kz t (Qh M t)
 | [],M,_=>rfl
 | t::ts,M,hn=>by
  have hn':=JW.1 hn
  simp only[Jt]
  split
  ·rename_i o ho
   simp only[JR,ho,Qv8]
   rw[Rh hn'.2]
   refine congrArg _ (Jta fun x hx=>?_)
   rw[Su (c:=x) (t:=t) fun e=>hn'.1 (by rw[e]; exact hx)]
  ·rename_i ho
   simp only[JR,ho,Kz]
   exact Rh hn'.2
theorem Qdf{ri:List (Nat×Nat)}:∀{l:List (Nat×SkO)} {cs cs':List Nat},(∀x∈cs',x∈cs)→Bh ri l cs=true→Bh ri l cs'=true
 | [],cs,cs',_,_=>rfl
 | (id,s)::l,cs,cs',hc,h=>by
  simp only[Bh]at h ⊢
  split at h
  ·rename_i c hcc
   simp only[QJ]at h ⊢
   refine⟨?_,Qdf (fun x hx=>?_) h.2⟩
   ·grind [Yl,Xm]
   grind
  ·exact Qdf hc h
theorem Gk{ri:List (Nat×Nat)}{p:Nat×SkO→Bool}:∀{l:List (Nat×SkO)} {cs:List Nat},Bh ri l cs=true→Bh ri (l.filter p) cs=true
 | [],cs,_=>rfl
 | (id,s)::l,cs,h=>by
  simp only[Bh]at h
  cases hp:p (id,s)with
  | true =>
   rw[ZO,if_pos hp]
   simp only[Bh]
   split at h
   ·rename_i c hcc
    simp only[QJ]at h ⊢
    exact⟨h.1,Gk h.2⟩
   ·exact Gk h
  | false =>
   rw[ZO,if_neg (by rw[hp]; simp)]
   split at h
   ·simp only[QJ]at h
    exact Gk (Qdf (fun x hx=>.tail _ hx) h.2)
   ·exact Gk h
theorem Qrv:∀{l:List (Nat×Ob)} {i:Nat},i∈Jp l↔∃q∈l,i∈Jp [q]
 | [],i=>by simp[Jp]
 | q::l,i=>by
  have ih:=Qrv (l:=l) (i:=i)
  have h:Jp (q::l)=Jp [q]++Jp l:=by
   obtain⟨k,o⟩:=q
   cases o with
   | mapC k1 v xs hole=>cases hole<;>simp[Jp]
   | _=>simp[Jp]
  rw[h,QZ,ih]
  grind
theorem Jej{l m:List (Nat×Ob)}(h:∀q∈l,q∈m){i:Nat}(hi:i∈Jp l):i∈Jp m:=let⟨q,h1,h2⟩:=Qrv.1 hi; Qrv.2 ⟨q,h q h1,h2⟩
theorem Jek{l m:List Nat}(h:Hh l m=true){i:Nat}(hi:i∈m):i∈l:=by
 induction m with
 | nil=>cases hi
 | cons x m ih =>
  simp only[Hh,QJ]at h
  rcases QX.1 hi with rfl | hi
  ·exact Xm.1 h.1
  ·exact ih h.2 hi
theorem Ju5{M:List (Nat×Ob)}{c:Nat}(h:c∈Vn M):∃ob,Qh M c=some ob:=by
 induction M with
 | nil=>cases h
 | cons q l ih =>
  simp only[Qh]
  cases hb:Nat.beq q.1 c with
  | true=>exact⟨_,rfl⟩
  | false =>
   simp only[cond_false]
   refine ih ?_
   rcases QX.1 h with e | h
   ·rw[e,Nat.beq_refl]at hb; cases hb
   ·exact h
theorem Qrw{l m:List (Nat×Ob)}{c:Nat}(h:Qh l c=none):Qh (l++m) c=Qh m c:=by
 induction l with
 | nil=>rfl
 | cons q l ih =>
  grind [Qh,Nat.beq]
theorem Qjq{ks:List Nat}:∀{M:List (Nat×Ob)},Vn (Vs ks M)=Vn M
 | []=>rfl
 | (id,o)::l=>by
  cases o<;>simp only[Vs,Vn,JV]<;>rw[show(Vs ks l).map Prod.fst=l.map Prod.fst from Qjq]
  cases(Yl ks id&&Nat.ble 1 _)<;>rfl
theorem Qv9{ri:List (Nat×Nat)}{M:List (Nat×Ob)}:∀{l:List (Nat×SkO)},Qvr ri M l=true→∀id∈l.map Prod.fst,∃cc,Jo ri id=some cc
 | (i,s)::l,h,id,hid=>by
  simp only[Qvr,QJ]at h
  rcases QX.1 hid with e | hid
  ·grind
  ·exact Qv9 h.2 id hid
def Q20(β:Nat→Nat)(ρ:Nat→Value):Nat×Ob→List Nat
 | (id,.var _ _)=>[β id]
 | (id,.map _ _ _)=>[β id]
 | (id,.mapC _ _ _ _)=>β id::(Qaa (ρ id)).flatMap fun v=>(Xl v).toList
 | (id,_)=>Jst (ρ id)
theorem Jje{β:Nat→Nat}{ρ:Nat→Value}{q:Nat×Ob}{g:Nat}:g∈Q20 β ρ q↔(Q4 β ρ q.1 q.2).blks g:=by
 obtain⟨id,o⟩:=q
 cases o with
 | var t c=>simp[Q20,Q4,Qqw]
 | row e t xs=>simp[Q20,Q1w,Q4,ml]
 | tail e t xs=>simp[Q20,Q1w,Q4,Qc3]
 | map k v xs=>simp[Q20,Q4,Qi4]
 | mapC k v xs hole=>simp only[Q20,Q4,Jh9,QX,KB,Option.mem_toList,Option.mem_def]
def Qp0:Ob→Bool
 | .tail _ _ _=>true
 | _=>false
theorem Q21{β:Nat→Nat}{ρ:Nat→Value}{id:Nat}{o:Ob}(h:Qp0 o=false){b:Nat}(f:Nat)(hb:(Q4 β ρ id o).blks b):(Q4 β ρ id o).cov b f:=by
 cases o with
 | tail e t xs=>cases h
 | var t c=>exact hb
 | row e t xs=>exact hb
 | map k v xs=>exact hb
 | mapC k v xs hole=>exact hb
theorem Qnr{M F:List (Nat×Ob)}{ri:List (Nat×Nat)}{pr:List Nat}:∀{Γm:List (Nat×SkO)} {l:List DV},Qlm Γm=true→Rc M F ri pr Γm=some l→∀q∈Γm,∀c ob,Jo ri q.1=some c→Qh M c=some ob→Qp0 ob=false
 | (id,s)::g,l,hn,h,q,hq,c,ob,hc,hob=>by
  simp only[Rc]at h
  split at h
  ·rename_i o ho
   split at h
   ·rename_i u v hu hv
    have hn':Qlm g=true:=by cases s<;>simp_all [Qlm]
    rcases QX.1 hq with rfl | hq
    ·simp only[Jau,hc,hob]at ho
     simp at ho; subst ho
     cases s<;>cases ob<;>simp_all [Sp,Qlm,Qp0]
    ·exact Qnr hn' hv q hq c ob hc hob
   ·cases h
  ·cases h
section
variable {P:Program} {Y:TX} {X:Cx} {S:XS} {β β':Nat→Nat} {ρ ρ':Nat→Value} {a a':Act} {w w':World} {n:Nat}
variable {ops:Array Oper} {Q:Exit→Act→World→Prop} {rest:List Oper} {R:Type} {k:XS→Option R} {r:R}
theorem Ja6(h:Rel X β ρ S.flat a w):∀{xs:List Operand} {i:Nat} {es:List En} (pre:List Value),pre.length=i→Q2h S xs i=some es →
  es.length=xs.length∧∀e∈es,(enD β ρ ⟨(pre++xs.map a.eval).toArray,[]⟩ e).p (okR X β ρ S.flat.mem w) w
 | [],i,es,pre,_,he=>by simp[Q2h]at he; subst he; exact⟨rfl,by simp⟩
 | x::xs,i,es,pre,hi,he=>by
  simp only[Q2h]at he
  split at he
  ·rename_i v r hv hr
   obtain⟨hbi,he⟩:=bvT he
   simp at he; subst he
   obtain⟨cs,h1,h2⟩:=h.ev (Qf a) hv
   obtain⟨h3,h4⟩:=Ja6 h (xs:=xs) (i:=i+1) (pre++[a.eval x]) (by simp[hi]) hr
   refine⟨by simp[h3],fun e hm=>?_⟩
   have hl:pre++[a.eval x]++xs.map a.eval=pre++(x::xs).map a.eval:=by simp
   rw[hl]at h4
   rcases QX.1 hm with rfl | hm
   ·refine⟨fun _=>⟨cs,?_,h2⟩,.inl (Qf _)⟩
    rw[Pn hbi]
    grind
   ·exact h4 e hm
  ·cases he
theorem Ja7{S:XS}:∀{xs:List Operand} {i:Nat} {es:List En},Q2h S xs i=some es→∀e∈es,e.cs=[]
 | [],i,es,he=>by grind [Q2h]
 | x::xs,i,es,he=>by
  simp only[Q2h]at he
  split at he
  ·rename_i v r hv hr
   obtain⟨_,he⟩:=bvT he
   simp at he; subst he
   intro e hm
   rcases QX.1 hm with rfl | hm
   ·rfl
   ·exact Ja7 hr e hm
  ·cases he
theorem Ja8{ok:Ok}{w:World}:∀{x:AV} {i:Nat} {cs:List En} {vs:List Value} (pre:List Value),pre.length=i→Jio x i=some cs→cr β ρ ok w true x vs →
  cs.length=vs.length∧(∀e∈cs,e.cs=[])∧∀e∈cs,(enD β ρ ⟨(pre++vs).toArray,[]⟩ e).p ok w
 | .nil,i,cs,vs,pre,_,he,h=>by
  simp[Jio]at he; subst he
  have:vs=[]:=h
  grind
 | .cons y r,i,cs,vs,pre,hi,he,h=>by
  simp only[Jio]at he
  split at he
  ·rename_i l hl
   obtain⟨hbi,he⟩:=bvT he
   simp at he; subst he
   obtain⟨c1,vs',rfl,h1,h2⟩:=h
   obtain⟨h3,h4,h5⟩:=Ja8 (pre++[y.val c1]) (by simp[hi]) hl h2
   refine⟨by simp[h3],fun e hm=>?_,fun e hm=>?_⟩
   ·grind
   ·rcases QX.1 hm with rfl | hm
    ·refine⟨fun _=>⟨c1,?_,h1⟩,.inl (Qf _)⟩
     rw[Pn hbi]
     grind
    grind
  ·cases he
theorem Jtb{ok:Ok}{w:World}{l post:List Value}{e:En}(hc:e.cs=[])(h:(enD β ρ ⟨l.toArray,[]⟩ e).p ok w):(enD β ρ ⟨(l++post).toArray,[]⟩ e).p ok w:=by
 obtain⟨cs,h1,h2⟩:=h.1 (by rw[hc]; exact Qf _)
 refine⟨fun _=>⟨cs,?_,h2⟩,.inl (by rw[hc]; exact Qf _)⟩
 unfold rd at h1 ⊢
 grind
theorem Q22{ri:List (Nat×Nat)}{d:Nat}{Γk:List Nat}{S:XS}{M:List (Nat×Ob)}:∀{l:List Nat},Jax ri d Γk S M l=true→∀j∈l,(∃c,Jo ri j=some c∧Jq ri d j=c∧j∈Γk) ∨
  (Jo ri j=none∧Yf (Jq ri d j) M=true∧Yf (Jq ri d j) S.fixM=true∧Qjh (Jq ri d j) S.fix=true∧Qjh (Jq ri d j) S.env=true∧Yl S.prot (Jq ri d j)=false∧j∉Γk)
 | i::l,h,j,hj=>by
  simp only[Jax,QJ]at h
  rcases QX.1 hj with rfl | hj
  ·have h1:=h.1
   cases hl:Jo ri j with
   | some c =>
    rw[hl]at h1
    simp only[Fk,cond_true]at h1
    exact .inl ⟨c,rfl,by simp only[Jq,hl],Xm.1 h1⟩
   | none =>
    rw[hl]at h1
    simp only[Fk,cond_false,QJ]at h1
    obtain⟨⟨⟨⟨⟨a1,a2⟩,a3⟩,a4⟩,a5⟩,a6⟩:=h1
    refine .inr ⟨rfl,a1,a2,a3,a4,by simpa using a5,fun hm=>?_⟩
    rw[Xm.2 hm]at a6; cases a6
  ·exact Q22 h.2 j hj
theorem At{ks:List Nat}:∀{l:List Nat},Hh ks l=true→∀i∈l,i∈ks
 | x::l,h,i,hi=>by
  simp only[Hh,QJ]at h
  rcases QX.1 hi with rfl | hi
  ·exact Xm.1 h.1
  ·exact At h.2 i hi
theorem Sw:∀{l:List Nat},Nu l=true→l.Nodup
 | [],_=>.nil
 | x::l,h=>by
  simp only[Nu,QJ]at h
  refine JW.2 ⟨fun hm=>?_,Sw h.2⟩
  have:=h.1
  rw[Xm.2 hm]at this; cases this
def backB(g:Nat→Nat)(ks:List Nat)(β2 β:Nat→Nat):Nat→Nat:=fun i=>match ks.find? fun j=>g j==i with
 | some j=>β2 j
 | none=>β i
def N0(g:Nat→Nat)(ks:List Nat)(ρ2 ρ:Nat→Value):Nat→Value:=fun i=>match ks.find? fun j=>g j==i with
 | some j=>ρ2 j
 | none=>ρ i
theorem Q23{g:Nat→Nat}:∀{ks:List Nat},(ks.map g).Nodup→∀j∈ks,(ks.find? fun i=>g i==g j)=some j
 | x::l,hn,j,hj=>by
  have hn':=JW.1 (by simpa using hn:(g x::l.map g).Nodup)
  rcases QX.1 hj with rfl | hj
  ·simp
  ·have hne:g x≠g j:=fun e=>hn'.1 (by rw[e]; grind)
   have:(g x==g j)=false:=by simpa using hne
   simp only[List.find?_cons,this]
   exact Q23 hn'.2 j hj
theorem Q24{l:List En}{e:En}(he:e∈l){i:Nat}(hi:i∈Jg e.av):i∈Rd l:=by
 induction l with
 | nil=>cases he
 | cons x l ih =>
  simp only[Rd,QZ]
  grind
theorem N1{d:Nat}:∀{x:AV},Z4 d x=true→d∉Jg x
 | .p id _,h=>by grind [id,Jg,Z4,Nat.beq_refl]
 | .e id _,h=>by grind [id,Jg,Z4,Nat.beq_refl]
 | .s id,h=>by grind [id,Jg,Z4,Nat.beq_refl]
 | .m id,h=>by grind [id,Jg,Z4,Nat.beq_refl]
 | .b id,h=>by grind [id,Jg,Z4,Nat.beq_refl]
 | .w id _ _,h=>by grind [id,Jg,Z4,Nat.beq_refl]
 | .f _ c,h=>by simp only[Z4]at h; simpa[Jg]using N1 h
 | .ag l,h=>by simp only[Z4]at h; simpa[Jg]using N1 h
 | .tp l,h=>by simp only[Z4]at h; simpa[Jg]using N1 h
 | .cons x r,h=>by
  simp only[Z4,QJ]at h
  simp only[Jg,QZ,not_or]
  exact⟨N1 h.1,N1 h.2⟩
 | .d _ _,_=>by simp[Jg]
 | .a _ _,_=>by simp[Jg]
 | .z,_=>by simp[Jg]
 | .ns,_=>by simp[Jg]
 | .np,_=>by simp[Jg]
 | .nm,_=>by simp[Jg]
 | .nf,_=>by simp[Jg]
 | .nil,_=>by simp[Jg]
theorem Qrx{d:Nat}:∀{M:List (Nat×Ob)},Yf d M=true→d∉Jp M
 | [],_=>by simp[Jp]
 | (k,o)::l,h=>by
  have hq:=D0 h (k,o) (.head _)
  have hl:Yf d l=true:=by
   cases o with
   | mapC k1 v xs hole=>cases hole<;>simp only[Yf,QJ]at h<;>exact h.2
   | _=>simp_all [Yf,QJ]
  have ih:=Qrx hl
  cases o with
  | var t c =>
   have:=N1 hq.2
   simp only[Jp,QX,QZ,not_or]
   grind
  | mapC k1 v xs hole =>
   cases hole with
   | none =>
    simp only[Jp,QX,not_or]
    grind
   | some q =>
    simp only[Jp,QX,not_or]
    exact⟨fun e=>hq.1 e.symm,fun e=>hq.2 e.symm,ih⟩
  | _ =>
   simp only[Jp,QX,not_or]
   grind
theorem Q25{β:Nat→Nat}{ρ:Nat→Value}{ok:Ok}{w:World}:∀{es:List En} {vs:List Value} {i:Nat},(∀(j:Nat) e,es[j]?=some e→∃cs,vs[j]?=some (e.av.val cs)∧cr β ρ ok w false e.av cs)→vs.length=es.length→cr β ρ ok w true (Qvs es) vs
 | [],vs,i,_,hl=>QD (by simpa using hl)
 | e::es,[],i,_,hl=>by simp at hl
 | e::es,v::vs,i,h,hl=>by
  obtain⟨cs,h1,h2⟩:=h 0 e rfl
  have h1':v=e.av.val cs:=by simpa using h1
  exact⟨cs,vs,by rw[h1'],h2,Q25 (i:=i) (fun j e' he=>by simpa using h (j+1) e' (by simpa using he)) (by simpa using hl)⟩
theorem Qry:∀(es:List En),Jg (Qvs es)=Rd es
 | []=>rfl
 | e::es=>by simp only[Qvs,Jg,Rd,Qry es]
theorem Jel(es:List En):∀i∈Jg (Sq es),i∈Rd es:=by
 intro i hi
 unfold Sq at hi
 grind [Rd,Jg,Qry]
theorem Qns(hX:X.n=n)(hr:X.res=[])(h:Rel X β ρ S.flat a w){o:Oper}(hw:Region.wanted o (yielded ops a.tmps)=true){c:Con}(hc:Qgv P Y.gl c)(hG:Uq Y.gl (okN X) X.w)(hrun:Runs P c.f)(hs:Ky n c o S k=some r)(H:KOk P ops Q rest X S β ρ k r) :
  wpList P ops Q (o::rest) a w:=by
 unfold Ky at hs
 split at hs
 ·rename_i x0 xs ts d hop hd
  split at hs
  ·rename_i f caps hx0
   have hb:=(bvT hs).1
   replace hs:=(bvT hs).2
   simp only[QJ]at hb
   have hf:=Nat.eq_of_beq_eq_true hb.1
   obtain⟨hd1,hd2⟩:=Vt hb.2 hX hr
   split at hs
   ·rename_i es0 cs0 hes0 hcs0
    obtain⟨cf,hf1,vc,hf2,hf3⟩:=h.ev (Qf a) hx0
    subst hf2
    replace hf1:a.eval x0=.func (.func f) #[] vc.toArray:=hf1
    obtain⟨el0,hE00⟩:=Ja6 h [] rfl hes0
    simp only[QV]at hE00
    obtain⟨el1,_,hE01⟩:=Ja8 (xs.map a.eval) (by simp) hcs0 hf3
    have el:(es0++cs0).length=(xs.map a.eval++vc).length:=by simp[el0,el1]
    have hE0:∀e∈es0++cs0,(enD β ρ ⟨(xs.map a.eval++vc).toArray,[]⟩ e).p (okR X β ρ S.flat.mem w) w:=by
     grind [Jtb,Ja7]
    generalize es0++cs0=es at *
    generalize hri:Jp6 c.Γ ⟨es,S.mem++S.fixM⟩=ri at hs
    unfold Ky.callE at hs
    split at hs
    ·rename_i x hx
     have hb2:=(bvT hs).1
     replace hs:=(bvT hs).2
     simp only[QJ]at hb2
     obtain⟨⟨⟨hb2n,hb2l⟩,hb2m⟩,hb2s⟩:=hb2
     have hlen:=Nat.eq_of_beq_eq_true hb2l
     obtain⟨y,hy,hs⟩:=Yt hs
     rw[Qpz]at hs
     unfold Ky.callR at hs
     have hb3:=(bvT hs).1
     replace hs:=(bvT hs).2
     simp only[QJ]at hb3
     obtain⟨⟨⟨n1,n2⟩,n3⟩,n4⟩:=hb3
     have h1:Rel X β ρ ⟨S.env++S.fix,frz c.Γ ri es S.mem++S.fixM⟩ a w:=by
      have:=Rel.freeze S.mem (l0:=[]) (F:=S.fixM) (ks:=Jil es c.Γ.env++Qyt S.mem ri c.Γ.mem) h
      simp only[QV]at this
      exact this
     have hM:∀id o,Qh ((frz c.Γ ri es S.mem++S.fixM)++[]) id=some o→(Q4 β ρ id o).p (okR X β ρ (frz c.Γ ri es S.mem++S.fixM) w) w:=fun id o ho=>h1.mm id o (by rw[QC]at ho; exact ho)
     unfold Joa at hx
     obtain⟨hbx,hx⟩:=bvT hx
     simp only[QJ]at hbx
     obtain⟨⟨⟨b1,b2⟩,b3⟩,b4⟩:=hbx
     split at hx
     ·rename_i u v hu hv
      have hxl:=Qyz hx
      have hokk:∀b f,okR X β ρ S.flat.mem w b f→okR X β ρ (frz c.Γ ri es S.mem++S.fixM) w b f:=by
       rintro b f ⟨o1,o2,o3,o4⟩
       refine⟨o1,o2,o3,fun t' ht' hcv=>?_⟩
       obtain⟨q,hq,rfl⟩:=QK.1 ht'
       have key:∀{l:List (Nat×Ob)} {ks:List Nat} {q:Nat×Ob},q∈Vs ks l→∃o',(q.1,o')∈l∧∀b f,(Q4 β ρ q.1 q.2).cov b f→(Q4 β ρ q.1 o').cov b f:=by
        intro l
        induction l with
        | nil=>intro ks q hq; cases hq
        | cons p l ih =>
         intro ks q hq
         obtain⟨id,ob⟩:=p
         have other:q∈Vs ks l→∃o',(q.1,o')∈(id,ob)::l∧∀b f,(Q4 β ρ q.1 q.2).cov b f→(Q4 β ρ q.1 o').cov b f:=fun hq=>let⟨o',p1,p2⟩:=ih hq; ⟨o',.tail _ p1,p2⟩
         cases ob with
         | row e t xs =>
          simp only[Vs]at hq
          rcases QX.1 hq with e' | hq
          ·cases hbb:(Yl ks id&&Nat.ble 1 t.size)with
           | true =>
            rw[hbb]at e'; subst e'
            exact⟨.row e t xs,.head _,fun b f hcv=>hcv.1⟩
           | false =>
            rw[hbb]at e'; grind
          ·exact other hq
         | var t' c' =>
          grind [Vs]
         | tail e t xs =>
          grind [Vs]
         | map k' v' xs =>
          grind [Vs]
         | mapC k' v' xs hole =>
          grind [Vs]
       rcases QZ.1 hq with hq | hq
       ·obtain⟨o',p1,p2⟩:=key hq
        exact o4 _ (QK.2 ⟨(q.1,o'),List.mem_append_left _ p1,rfl⟩) (p2 b f hcv)
       ·exact o4 _ (QK.2 ⟨q,List.mem_append_right _ hq,rfl⟩) hcv
      obtain⟨es',e1,e2⟩:=Qlp hM (fun e he=>(enD β ρ _ e).weak (hE0 e he) hokk) v hu
      obtain⟨m1,m2⟩:=Qlq hM b3 hv
      have henc:enc c.Γ x=⟨es',Xc c.Γ.mem v⟩:=by grind [enc]
      have hkind:=Qnr hb2n hv
      obtain⟨ln1,_⟩:=Im (Gk (p:=fun q=>!Yl c.ro q.1) b1)
      obtain⟨ln2,_⟩:=Im (Gk (p:=fun q=>Yl c.ro q.1) b1)
      have hroS:=Qy5 (g:=Jq ri d) (ro:=c.ro) (fun i cc hcc=>by grind [Jq]) hv hb2s
      have hkM:∀cc∈Vn S.mem,∃ob,Qh (frz c.Γ ri es S.mem) cc=some ob:=fun cc hcc=>Ju5 (by grind [frz,Qjq])
      generalize hM0:frz c.Γ ri es S.mem=M0 at *
      have hwk:∀(p:Nat×SkO→Bool) id,id∈(c.Γ.mem.filter p).map Prod.fst→id∈c.Γ.mem.map Prod.fst:=fun p id hid=>by
       grind
      have hdisj:∀cc∈Yb ri (rdG c.ro c.Γ.mem),cc∉Yb ri (wrG c.ro c.Γ.mem):=fun cc h1 h2=>by
       obtain⟨i1,p1,p2⟩:=As h1
       obtain⟨i2,r1,r2⟩:=As h2
       obtain⟨q1,s1,rfl⟩:=QK.1 p1
       obtain⟨q2,s2,rfl⟩:=QK.1 r1
       have t1:=(QU.1 s1).2
       have t2:=(QU.1 s2).2
       have k1:q1.1∈(Xc c.Γ.mem v).map Prod.fst:=by rw[m1]; exact QK.2 ⟨_,(QU.1 s1).1,rfl⟩
       have k2:q2.1∈(Xc c.Γ.mem v).map Prod.fst:=by rw[m1]; exact QK.2 ⟨_,(QU.1 s2).1,rfl⟩
       obtain⟨e1,f1,g1⟩:=QK.1 k1
       obtain⟨e2,f2,g2⟩:=QK.1 k2
       obtain⟨pw,_⟩:=Sr b1 m1
       have hne:q1.1≠q2.1:=fun e=>by rw[e]at t1; rw[t1]at t2; cases t2
       have key:∀{l:List (Nat×Ob)},(l.Pairwise fun q q'=>∀c c',Jo ri q.1=some c→Jo ri q'.1=some c'→c≠c')→e1∈l→e2∈l→False:=by
        intro l hl
        induction l with
        | nil=>intro h; cases h
        | cons z l ih =>
         have hl':=List.pairwise_cons.1 hl
         grind
       grind
      have hp1:=K1 (Yb ri (wrG c.ro c.Γ.mem)) M0
      have hp2:=K1 (Yb ri (rdG c.ro c.Γ.mem)) ((Jt M0 (Yb ri (wrG c.ro c.Γ.mem))).1++S.fixM)
      have hlkR:∀cc∈Yb ri (rdG c.ro c.Γ.mem),Qh ((Jt M0 (Yb ri (wrG c.ro c.Γ.mem))).1++S.fixM) cc=Qh (M0++S.fixM) cc:=fun cc hcc=>by
       have e:=Qam (M:=M0) (hdisj cc hcc)
       cases hl:Qh M0 cc with
       | none=>rw[Qrw hl,Qrw (e.trans hl)]
       | some ob=>rw[Q8 hl,Q8 (e.trans hl)]
      have hlkN:∀cc∈Yb ri (wrG c.ro c.Γ.mem),∀ob,Qh (M0++S.fixM) cc=some ob→Qh M0 cc=some ob:=fun cc hcc ob hob=>by
       obtain⟨ob',hob'⟩:=hkM cc (Jek hb2m hcc)
       rw[Q8 hob']at hob
       rw[hob',hob]
      have hsR:=Rh (M:=(Jt M0 (Yb ri (wrG c.ro c.Γ.mem))).1++S.fixM) ln2
      have hroE:Wp (Jq ri d) (rdM c.ro (Xc c.Γ.mem v))=(Jt ((Jt M0 (Yb ri (wrG c.ro c.Γ.mem))).1++S.fixM) (Yb ri (rdG c.ro c.Γ.mem))).2:=by
       refine hroS.trans ?_
       refine(Jta fun x hx=>?_).trans hsR.symm
       rw[hlkR x hx]
      obtain⟨Ml,hMl0⟩:∃Ml,Ml=(Jt M0 (Yb ri (wrG c.ro c.Γ.mem))).2++(Jt ((Jt M0 (Yb ri (wrG c.ro c.Γ.mem))).1++S.fixM) (Yb ri (rdG c.ro c.Γ.mem))).2:=⟨_,rfl⟩
      have hF1:∀q∈Ml,∃id∈c.Γ.mem.map Prod.fst,Jo ri id=some q.1∧Qh (M0++S.fixM) q.1=some q.2:=fun q hq=>by
       rw[hMl0]at hq
       rcases QZ.1 hq with hq | hq
       ·obtain⟨p1,p2⟩:=Qal ln1 q hq
        grind [id,As,Q8]
       ·obtain⟨p1,p2⟩:=Qal ln2 q hq
        obtain⟨id,p3,p4⟩:=As p1
        exact⟨id,hwk _ id p3,p4,by rw[←hlkR _ p1]; exact p2⟩
      have hMl:∀id∈c.Γ.mem.map Prod.fst,∀cc ob,Jo ri id=some cc→Qh (M0++S.fixM) cc=some ob→(cc,ob)∈Ml:=by
       intro id hid cc ob e3 e4
       rw[hMl0]
       obtain⟨q,hq,rfl⟩:=QK.1 hid
       cases hm:Yl c.ro q.1 with
       | true =>
        have hin:cc∈Yb ri (rdG c.ro c.Γ.mem):=Pr (QK.2 ⟨q,QU.2 ⟨hq,hm⟩,rfl⟩) e3
        exact List.mem_append_right _ (Qak ln2 hin (by rw[hlkR _ hin]; exact e4))
       | false =>
        have hin:cc∈Yb ri (wrG c.ro c.Γ.mem):=Pr (QK.2 ⟨q,QU.2 ⟨hq,by rw[hm]; rfl⟩,rfl⟩) e3
        exact List.mem_append_left _ (Qak ln1 hin (hlkN _ hin _ e4))
      generalize hMn0:(Jt M0 (Yb ri (wrG c.ro c.Γ.mem))).2=Mn at *
      generalize hMr0:(Jt M0 (Yb ri (wrG c.ro c.Γ.mem))).1=Mr0 at *
      generalize hMo0:(Jt (Mr0++S.fixM) (Yb ri (rdG c.ro c.Γ.mem))).2=Mo at *
      generalize hMr1:(Jt (Mr0++S.fixM) (Yb ri (rdG c.ro c.Γ.mem))).1=Mr at *
      have hperm:(Ml++Mr).Perm (M0++S.fixM):=by
       rw[hMl0,List.append_assoc]
       refine(List.Perm.append_left Mn hp2).trans ?_
       rw[←List.append_assoc]
       exact hp1.append_right _
      have h2:Sb (fun _=>0) X [] ((S.env++S.fix).map (enD β ρ a)) [] (Qk β ρ Ml++Qk β ρ Mr) a w:=by
       refine Sb.perm h1 ?_
       rw[←QN]
       exact List.Perm.map _ hperm.symm
      have hok2:∀b f,okR X β ρ (M0++S.fixM) w b f→Jk X.ok X.w.heap.size (fun _=>0) [] (Qk β ρ Ml++Qk β ρ Mr) w b f:=by
       rintro b f ⟨o1,o2,o3,o4⟩
       refine⟨o1,o2,o3,fun t' ht'=>?_⟩
       grind
      have hmk:∀q∈Xc c.Γ.mem v,q.1∈c.Γ.mem.map Prod.fst:=by
       grind
      have hval:∀q∈Xc c.Γ.mem v,(∃cc ob,Jo ri q.1=some cc∧(cc,ob)∈Ml∧Qp0 ob=false∧(∀g,(Q4 (E7 ri β) (Ev ri [] ρ) q.1 q.2).blks g→(Q4 β ρ cc ob).blks g))∨(∀g,¬ (Q4 (E7 ri β) (Ev ri [] ρ) q.1 q.2).blks g):=by
       intro q hq
       rcases m2 q hq with⟨cc,ob,e3,e4,e5,_⟩ | ⟨_,e5,_⟩
       ·have hid:=hmk q hq
        grind
       ·exact .inr e5
      have hLm:∀g,g∈(Xc c.Γ.mem v).flatMap (Q20 (E7 ri β) (Ev ri [] ρ))↔∃q∈Xc c.Γ.mem v,(Q4 (E7 ri β) (Ev ri [] ρ) q.1 q.2).blks g:=by
       grind [Jje]
      generalize hL:(Xc c.Γ.mem v).flatMap (Q20 (E7 ri β) (Ev ri [] ρ))=L at hLm
      have hLends:Qnf (Qk (E7 ri β) (Ev ri [] ρ) (enc c.Γ x).mem) L (Jk X.ok X.w.heap.size (fun _=>0) [] (Qk β ρ Ml++Qk β ρ Mr) w) w:=by
       rw[henc]
       refine⟨fun t ht=>?_,?_,fun g hg=>?_⟩
       ·obtain⟨q,hq,rfl⟩:=QK.1 ht
        refine⟨?_,fun g hg=>(hLm g).2 ⟨q,hq,hg⟩,fun g f hg hok=>?_⟩
        ·rcases m2 q hq with⟨_,_,_,_,_,_,e6⟩ | ⟨_,_,e6⟩
         ·exact(Q4 _ _ q.1 q.2).weak e6 hok2
         ·exact e6 _ _
        ·rcases hval q hq with⟨cc,ob,_,e4,e5,e6⟩ | e6
         ·exact hok.2.2.2 _ (List.mem_append_left _ (QK.2 ⟨_,e4,rfl⟩)) (Q21 e5 f (e6 g hg))
         ·exact e6 g hg
       ·obtain⟨p1,_⟩:=Sr b1 m1
        show((Xc c.Γ.mem v).map _).Pairwise _
        rw[JB]
        refine List.Pairwise.imp_of_mem ?_ p1
        intro q q' hq hq' hne g hg hg'
        rcases m2 q hq with⟨cc,ob,e3,e4,e5,_⟩ | ⟨_,e5,_⟩
        ·rcases m2 q' hq' with⟨cc',ob',e3',e4',e5',_⟩ | ⟨_,e5',_⟩
         ·exact h1.disj e4 e4' (hne cc cc' e3 e3') g (e5 g hg) (e5' g hg')
         ·exact e5' g hg'
        ·exact e5 g hg
       grind
      have hargs:∀e∈(enc c.Γ x).env,∃cs,(xs.map a.eval++vc)[e.t]?=some (e.av.val cs)∧cr (E7 ri β) (Ev ri [] ρ) (Jk X.ok X.w.heap.size (fun _=>0) [] (Qk β ρ Ml++Qk β ρ Mr) w) w false e.av cs:=by
       intro e he
       rw[henc]at he
       have hcs:e.cs=[]:=by
        have:=Qls (Γe:=c.Γ.env) (l:=u++v) e (by rw[e1]; exact he)
        exact this
       obtain⟨cs,p1,p2⟩:=(e2 e he).1.1 (by rw[hcs]; exact Qf _)
       rw[Pn (e2 e he).2]at p1
       grind [Gs]
      have hcall:=hc _ w L _ _ x y (xs.map a.eval++vc) (fun b f hk=>hk.2.1) (Ss h2 hG) (by rw[←el,hlen]) hLends hargs hy
      subst hf
      refine Jw hw ?_
      have hrun':(execOp a.eval o).run P w=.ok (.enter c.f ⟨xs.map a.eval++vc⟩) w:=by
       grind [execOp,resolve,Deferred.ofValue,invoke,Qiz]
      unfold Oper.wp
      rw[hrun']
      refine hcall.mono ?_
      rintro e' w' ⟨v0,rfl,⟨β2,ρ2,hag,⟨cs,hv0,hcr⟩,hT2,hpw2⟩,hbel⟩
      show wpList P ops Q rest (a.put o.dst v0) w'
      rw[hd]
      have hLl:∀g∈L,∃t∈Qk β ρ Ml,t.blks g:=by
       intro g hg
       obtain⟨q,hq,hg⟩:=(hLm g).1 hg
       grind
      have hcov:∀t∈Qk β ρ Ml,∀b f,t.blks b→t.cov b f:=by
       intro t ht b f hb
       obtain⟨q,hq,rfl⟩:=QK.1 ht
       grind [id,Q21]
      have h3:=Sb.callO h2 hbel hLl hcov hT2 hpw2
      have hROk:∀j∈(roM c x).map Prod.fst,∃cc,Jo ri j=some cc∧j∈c.Γ.mem.map Prod.fst:=fun j hj=>by
       obtain⟨q,hq,rfl⟩:=QK.1 hj
       unfold roM at hq
       rw[henc]at hq
       obtain⟨hq1,hq2⟩:=QU.1 hq
       have hk:=hmk q hq1
       obtain⟨q',hq',he'⟩:=QK.1 hk
       obtain⟨cc,hcc⟩:=Qv9 hb2s q.1 (QK.2 ⟨q',QU.2 ⟨hq',by rw[he']; exact hq2⟩,he'⟩)
       grind
      have hroE2:Wp (Jq ri d) (roM c x)=Mo:=by grind [roM]
      generalize hRO:roM c x=RO at *
      generalize hS1:Qdc c.Δ y=S1 at *
      generalize hks:(S1.mem++RO).map Prod.fst=ks at *
      have hA:∀j∈ks,backB (Jq ri d) ks β2 β (Jq ri d j)=β2 j∧N0 (Jq ri d) ks ρ2 ρ (Jq ri d j)=ρ2 j:=by
       intro j hj
       have:=Q23 (g:=Jq ri d) (ks:=ks) (by rw[←hks,VU]; exact Sw n2) j hj
       grind [backB,N0]
      have hcase:∀j∈ks,(∃cc,Jo ri j=some cc∧Jq ri d j=cc∧j∈c.Γ.mem.map Prod.fst) ∨
        (Jo ri j=none∧Yf (Jq ri d j) Mr0=true∧Yf (Jq ri d j) S.fixM=true∧Qjh (Jq ri d j) S.fix=true∧Qjh (Jq ri d j) S.env=true∧Yl S.prot (Jq ri d j)=false∧j∉c.Γ.mem.map Prod.fst):=by
       intro j hj
       rw[←hks,QN]at hj
       rcases QZ.1 hj with hj | hj
       ·exact Q22 n1 j hj
       grind [Jq]
      have hB:∀i,(∀j∈ks,Jo ri j=none→Jq ri d j≠i)→backB (Jq ri d) ks β2 β i=β i∧N0 (Jq ri d) ks ρ2 ρ i=ρ i:=by
       intro i hi
       cases hfd:ks.find? (fun j=>Jq ri d j==i)with
       | none=>grind [backB,N0]
       | some j =>
        have hj:=KZ hfd
        have hji:Jq ri d j=i:=by grind
        rcases hcase j hj with⟨cc,p1,p2,p3⟩ | ⟨p1,_⟩
        ·obtain⟨q1,q2⟩:=hag j p3
         grind [backB,E7,N0,Ev]
        grind
      have hfr:=fun j hj (hn:Jo ri j=none)=>(hcase j hj).resolve_left fun⟨cc,p1,_⟩=>by rw[hn]at p1; cases p1
      have hEnv:∀e∈S.env++S.fix,∀i∈Jg e.av,backB (Jq ri d) ks β2 β i=β i∧N0 (Jq ri d) ks ρ2 ρ i=ρ i:=by
       grind [Z4,Jq,Qrj,N1]
      have hMem:∀i∈Jp Mr,backB (Jq ri d) ks β2 β i=β i∧N0 (Jq ri d) ks ρ2 ρ i=ρ i:=by
       intro i hi
       refine hB i fun j hj hn hji=>?_
       obtain⟨_,p2,p3,_⟩:=hfr j hj hn
       replace hi:=Jej (fun q hq=>hp2.mem_iff.1 (List.mem_append_right _ hq)) hi
       have happ:∀(l m:List (Nat×Ob)),Jp (l++m)=Jp l++Jp m:=by
        intro l m
        induction l with
        | nil=>rfl
        | cons q l ih =>
         obtain⟨k0,o0⟩:=q
         cases o0 with
         | mapC k1 v xs hole=>cases hole<;>simp[Jp,ih]
         | _=>simp[Jp,ih]
       rw[happ,QZ]at hi
       grind [Qrx]
      have hsim:Wg (Qk β2 ρ2 (S1.mem++RO)++Qk β ρ Mr) (Qk (backB (Jq ri d) ks β2 β) (N0 (Jq ri d) ks ρ2 ρ) (Wp (Jq ri d) (S1.mem++RO))++Qk (backB (Jq ri d) ks β2 β) (N0 (Jq ri d) ks ρ2 ρ) Mr) :=
       (Qy4 fun i hi=>hA i (At n4 i hi)).append (Qv7 hMem)
      have h4:=Sb.simO h3 hsim
      have hmemO:Qk (backB (Jq ri d) ks β2 β) (N0 (Jq ri d) ks ρ2 ρ) (Wp (Jq ri d) (S1.mem++RO))++Qk (backB (Jq ri d) ks β2 β) (N0 (Jq ri d) ks ρ2 ρ) Mr =
        Qk (backB (Jq ri d) ks β2 β) (N0 (Jq ri d) ks ρ2 ρ) ((Wp (Jq ri d) S1.mem++Mo)++Mr):=by
       rw[show Wp (Jq ri d) (S1.mem++RO)=Wp (Jq ri d) S1.mem++Wp (Jq ri d) RO from QN,hroE2]
       grind
      have h5:Rel X (backB (Jq ri d) ks β2 β) (N0 (Jq ri d) ks ρ2 ρ) ⟨S.env++S.fix,(Wp (Jq ri d) S1.mem++Mo)++Mr⟩ a w':=by
       refine Rel.ofSb h4 hmemO fun e he=>?_
       have hp:=Yk.1 h4.dat _ (QK.2 ⟨e,he,rfl⟩)
       rw[hmemO]at hp
       exact⟨fun hcc=>let⟨cs,q1,q2⟩:=hp.1 hcc; ⟨cs,q1,Hj (hEnv e he) q2⟩,hp.2⟩
      have hres:cr (backB (Jq ri d) ks β2 β) (N0 (Jq ri d) ks ρ2 ρ) (okR X (backB (Jq ri d) ks β2 β) (N0 (Jq ri d) ks ρ2 ρ) ((Wp (Jq ri d) S1.mem++Mo)++Mr) w') w' false (Wh (Jq ri d) (Sq S1.env)) cs:=by
       have q1:=Qaj (g:=Jq ri d) (fun i hi=>hA i (At n3 i (Jel _ i hi))) hcr
       refine Gs q1 fun b f hk=>?_
       have q2:=hsim.ok b f (Qff h2 hbel.size hLl b f hk)
       rw[hmemO]at q2
       exact q2
      have h6:=h5.put0 hd1 hres
      have hvv:(Wh (Jq ri d) (Sq S1.env)).val cs=v0:=by rw[hv0]; exact Jom _ _ _
      rw[hvv]at h6
      have hfin:((Wp (Jq ri d) S1.mem++Mo)++Mr).Perm ((Wp (Jq ri d) S1.mem++Mr0)++S.fixM):=by
       rw[List.append_assoc,List.append_assoc]
       exact List.Perm.append_left _ hp2
      refine H _ _ _ _ _ hs ⟨rfl,rfl,rfl,fun i hi=>hB i fun j hj hn hji=>?_⟩ ?_
      ·grind [Xm]
      ·rw[Ge (S:=⟨S.env,S.fix,Wp (Jq ri d) S1.mem++Mr0,S.fixM,S.prot⟩) hd2]
       exact Sb.perm h6 (hfin.map _)
     ·cases hx
    ·cases hs
   ·cases hs
  ·cases hs
 ·cases hs
end
end Gx

/- Small things for regions of open order. -/
namespace Gx
open Go Go.RowKit Gd
set_option linter.unusedVariables false
set_option linter.unusedSimpArgs false
theorem Ja9{l:List Oper}{p k i:Nat}(h:Js4 l p=true)(hk:p≤k)(hkl:k<l.length)(hi:i<k):Bd l l.length k i=true:=by
 have h1:=JX.1 h k (JL.2 hkl)
 simp only[JU]at h1
 rcases h1 with h1 | h1
 ·have:=QW h1; omega
 grind
theorem Qjr:∀{l:List Nat} {t:Nat},Yl l t=true→t∈l
 | [],t,h=>by cases h
 | k::l,t,h=>by
  simp only[Yl]at h
  cases hb:Nat.beq k t with
  | true=>rw[Nat.eq_of_beq_eq_true hb]; exact .head _
  | false=>rw[hb]at h; exact .tail _ (Qjr (by simpa using h))
theorem Qjs:∀{env:List En} {e:En},e∈Q72 env→e.cs=[]∧e∈env∧Nat.blt e.t 100000=false
 | [],e,h=>by simp[Q72]at h
 | x::l,e,h=>by
  simp only[Q72]at h
  cases hb:Nat.blt x.t 100000 with
  | true =>
   rw[hb]at h
   obtain⟨h1,h2,h3⟩:=Qjs (env:=l) h
   grind
  | false =>
   rw[hb]at h
   simp only[cond_false]at h
   split at h
   ·rename_i hc
    rcases QX.1 h with rfl | h
    ·grind
    ·obtain⟨h1,h2,h3⟩:=Qjs (env:=l) h
     grind
   ·obtain⟨h1,h2,h3⟩:=Qjs (env:=l) h
    grind
theorem Jem{l:List Nat}{i d:Nat}(hi:i<l.length)(h:l.getD i 0=d):l[i]?=some d:=by
 rw[JO,List.getElem?_eq_getElem hi]at h
 rw[List.getElem?_eq_getElem hi]; grind
abbrev Qf1(E:Nat→Bool)(i:Nat):Nat→Bool:=fun j=>j==i||E j
theorem Qjt{l:List Nat}{t:Nat}(h:t∈l):Yl l t=true:=by
 induction l with
 | nil=>cases h
 | cons k l ih =>
  simp only[Yl,JU]
  rcases QX.1 h with rfl | h
  ·simp_all
  grind
theorem Qdg:∀{M:List (Nat×Ob)} {id:Nat},Fk (Qh M id)=true→id∈Vn M
 | [],id,h=>by simp[Qh,Fk]at h
 | (k,ob)::l,id,h=>by
  simp only[Qh]at h
  cases hb:Nat.beq k id with
  | true=>rw[Nat.eq_of_beq_eq_true hb]; exact .head _
  | false=>rw[hb]at h; exact .tail _ (Qdg h)
theorem Ju6{a b:Nat}(h:a≠b):Nat.beq a b=false:=by
 grind [Nat.beq,absurd,Nat.eq_of_beq_eq_true]
theorem Qhq:∀{M:List (Nat×Ob)},(Vn M).Nodup→∀q∈M,Qh M q.1=some q.2
 | [],_,q,h=>by cases h
 | (k,x)::l,hn,q,h=>by
  have hn':=JW.1 (show(k::Vn l).Nodup from hn)
  simp only[Qh]
  rcases QX.1 h with rfl | h
  ·simp_all
  ·have hne:k≠q.1:=fun e=>hn'.1 (e▸QK.2 ⟨q,h,rfl⟩)
   rw[Ju6 hne]
   exact Qhq hn'.2 q h
theorem Qwa:∀{ds:List Nat} {env:List En} {e:En},e∈Qno env ds→e∈env∧∀d∈ds,Z4 d e.av=true∧e.t≠d∧∀c∈e.cs,c.1≠d
 | [],env,e,h=>⟨h,by simp⟩
 | d::ds,env,e,h=>by
  obtain⟨h1,h2⟩:=Qwa (ds:=ds) h
  obtain⟨h3,h4,h5⟩:=Nq h1
  obtain⟨h6,h7⟩:=Qhp h3
  grind
theorem Qrz{α:Type}{f g:α→Bool}:∀{l:List α} {x:α},(∀y,f y=true→g y=true)→x∈l→f x=false→g x=true→(l.filter f).length<(l.filter g).length
 | y::ys,x,hfg,hx,h1,h2=>by
  have hle:∀zs:List α,(zs.filter f).length≤(zs.filter g).length:=by
   intro zs
   induction zs with
   | nil=>simp
   | cons z zs ih =>
    grind
  rcases QX.1 hx with rfl | hx
  ·grind
  ·have:=Qrz hfg hx h1 h2
   grind
end Gx

/- Regions, control, functions. -/
namespace Gx
open Go Go.RowKit Gd
set_option linter.unusedVariables false
set_option linter.unusedSimpArgs false
def Q26(P:Program)(gl:List (Nat×Σ t:Ty,t.De))(K:List Con):Prop:=∀c∈K,Qgv P gl c∧Runs P c.f
def KsX(P:Program)(Y:TX)(X:Cx)(K:List Con):Prop:=Q26 P Y.gl K∧Uq Y.gl (okN X) X.w
theorem Jjf{M:List (Nat×Ob)}(x:AV):(Re M x).isAgg=x.isAgg:=by
 cases x with
 | s id =>
  simp only[Re]
  split<;>rfl
 | _=>rfl
theorem Q27{M:List (Nat×Ob)}(x:AV)(cs:List Value):(Re M x).val cs=x.val cs:=by
 unfold AV.val
 rw[Jjf]
theorem Qju{M:List (Nat×Ob)}:∀{x:AV} {i:Nat},i∈Jg (Re M x)→i∈Jg x
 | .s id,i,h=>by
  simp only[Re]at h
  split at h
  ·cases h
  ·exact h
 | .ag l,i,h=>Qju (x:=l) h
 | .cons x r,i,h=>by
  rcases QZ.1 (show i∈Jg (Re M x)++Jg (Re M r)from h)with h | h
  ·exact List.mem_append_left _ (Qju h)
  ·exact List.mem_append_right _ (Qju h)
 | .d ..,i,h=>h
 | .p ..,i,h=>h
 | .e ..,i,h=>h
 | .m _,i,h=>h
 | .b _,i,h=>h
 | .w ..,i,h=>h
 | .a ..,i,h=>h
 | .z,i,h=>h
 | .ns,i,h=>h
 | .np,i,h=>h
 | .nm,i,h=>h
 | .nf,i,h=>h
 | .f ..,i,h=>h
 | .tp _,i,h=>h
 | .nil,i,h=>h
section
variable {β:Nat→Nat} {ρ:Nat→Value} {ok:Ok} {w:World}
theorem Qan{M:List (Nat×Ob)}(hM:∀id o,Qh M id=some o→(Q4 β ρ id o).p ok w):∀{m:Bool} {x:AV} {cs:List Value},cr β ρ ok w m x cs→cr β ρ ok w m (Re M x) cs
 | m,.s id,cs,h=>by
  simp only[Re]
  split
  ·rename_i e t xs ho
   have h1:=(hM _ _ ho).1
   have h':(∃v,cs=[v]∧zal v (ρ id))∧∃A n c,ρ id=.slice A n c:=by cases m<;>exact h
   obtain⟨⟨v,rfl,hz⟩,_⟩:=h'
   have h2:(rt (.sl t)).rep ok w xs [v]:=⟨_,rfl,Xb.1 (Qyo hz h1)⟩
   cases m<;>exact h2
  ·exact h
 | m,.ag l,cs,h=>by
  have h':cr β ρ ok w false l cs:=by cases m<;>exact h
  have:=Qan hM (m:=false) (x:=l) h'
  cases m<;>exact this
 | true,.cons x r,cs,⟨c1,vs,h1,h2,h3⟩=>⟨c1,vs,by rw[h1,Q27],Qan hM h2,Qan hM h3⟩
 | false,.cons x r,cs,⟨c1,c2,h1,h2,h3⟩=>⟨c1,c2,h1,Qan hM h2,Qan hM h3⟩
 | m,.d ..,cs,h=>h
 | m,.p ..,cs,h=>h
 | m,.e ..,cs,h=>h
 | m,.m _,cs,h=>h
 | m,.b _,cs,h=>h
 | m,.w ..,cs,h=>h
 | m,.a ..,cs,h=>h
 | m,.z,cs,h=>h
 | m,.ns,cs,h=>h
 | m,.np,cs,h=>h
 | m,.nm,cs,h=>h
 | m,.nf,cs,h=>h
 | m,.f ..,cs,h=>h
 | m,.tp _,cs,h=>h
 | m,.nil,cs,h=>h
end
theorem Sb.replO{β0:Nat→Nat}{X:Cx}{G:GL}{D:List DF}{H:HL}{O1 O2:List TL}{t t':TL}{a:Act}{w:World}(h:Sb β0 X G D H (O1++t::O2) a w)(h1:∀g,t'.blks g↔t.blks g)(h2:∀b o,t'.cov b o↔t.cov b o)
  (hp:t'.p (Jk X.ok X.w.heap.size β0 H (O1++t::O2) w) w):Sb β0 X G D H (O1++t'::O2) a w:=by
 have hmem:∀u∈O1++t'::O2,u=t'∨u∈O1++t::O2:=fun u hu=>by
  grind
 have ht:t∈O1++t::O2:=List.mem_append_right _ (.head _)
 have hok:∀b o,Jk X.ok X.w.heap.size β0 H (O1++t::O2) w b o→Jk X.ok X.w.heap.size β0 H (O1++t'::O2) w b o:=fun b o ⟨q1,q2,q3,q4⟩=>⟨q1,q2,q3,fun u hu hc=>by
  grind⟩
 refine { sz:=h.sz,df:=h.df,fr:=h.fr,pn:=h.pn,tm:=h.tm,bel:=h.bel,dat:=h.dat.weak hok,obj:=h.obj,own:=fun u hu=>?_,dHH:=h.dHH,dHO:=fun p hp' u hu=>?_,dOO:=?_ }
 ·rcases hmem u hu with rfl | hu
  ·exact⟨u.weak hp hok,fun g hg=>(h.own t ht).2 g ((h1 g).1 hg)⟩
  ·exact⟨u.weak (h.own u hu).1 hok,(h.own u hu).2⟩
 ·rcases hmem u hu with rfl | hu
  ·exact fun hb=>h.dHO p hp' t ht ((h1 _).1 hb)
  ·exact h.dHO p hp' u hu
 ·have:=h.dOO
  rw[QE,List.pairwise_cons]at this ⊢
  grind
theorem Ju7{X:Cx}{β:Nat→Nat}{ρ:Nat→Value}{a:Act}{w:World}{S:XS}(h:Rel X β ρ S.flat a w){id:Nat}{tid:TypeId}{c:AV}(hm:Qh S.mem id=some (.var tid c)):Rel X β ρ (S.set id (.var tid (Re S.flat.mem c))).flat a w:=by
 have hm':Qh S.flat.mem id=some (.var tid c):=Q8 hm
 obtain⟨l1,l2,e1,e2,e3⟩:=J2 hm'
 have hE:(S.set id (.var tid (Re S.flat.mem c))).flat=⟨S.flat.env,Qi7 S.flat.mem id (.var tid (Re S.flat.mem c))⟩:=by
  grind [XS.flat,XS.set,Ar]
 rw[hE,e2]
 have hO:Qk β ρ S.flat.mem=Qk β ρ l1++Q4 β ρ id (.var tid c)::Qk β ρ l2:=by rw[e1]; simp[Qk]
 have hmem:Qk β ρ (l1++(id,Ob.var tid (Re S.flat.mem c))::l2)=Qk β ρ l1++Q4 β ρ id (.var tid (Re S.flat.mem c))::Qk β ρ l2:=by simp[Qk]
 have h0:Sb (fun _=>0) X [] (S.flat.env.map (enD β ρ a)) [] (Qk β ρ l1++Q4 β ρ id (.var tid c)::Qk β ρ l2) a w:=by rw[←hO]; exact h
 obtain⟨cs,q1,q2⟩:=(h.ob hm').1
 have hS:=Sb.replO h0 (t':=Q4 β ρ id (.var tid (Re S.flat.mem c))) (fun _=>Iff.rfl) (fun _ _=>Iff.rfl) (by
  rw[←hO]
  exact⟨cs,q1,Qan h.mm q2⟩)
 exact Rel.ofSb hS hmem.symm fun e he=>by
  have:=Yk.1 hS.dat _ (QK.2 ⟨e,he,rfl⟩)
  rw[←hmem]at this
  exact this
section
variable {P:Program} {Y:TX} {X:Cx} {S:XS} {β β':Nat→Nat} {ρ ρ':Nat→Value} {a a':Act} {w w':World} {n N:Nat} {K:List Con}
variable {Q:Exit→Act→World→Prop} {R:Type} {r:R}
theorem Qjv{env:List En}:∀{ts:List Nat},∀e∈Quj env ts,e∈env
 | [],e,he=>by simp[Quj]at he
 | t::ts,e,he=>by
  simp only[Quj]at he
  split at he
  ·rename_i x hx
   rcases QX.1 he with rfl | he
   ·grind [Z3]
   ·exact Qjv e he
  ·exact Qjv e he
theorem Rel.ent(h:Rel X β ρ S.flat a w)(ks ms:List Nat):Rel X β ρ (S.ent ks ms).flat a w:=by
 have h1:Rel X β ρ ⟨S.env++(Quj S.env ks++S.fix),S.flat.mem⟩ a w:=Rel.less (S:=S.flat) h fun e he=>by
  rcases QZ.1 he with he | he
  ·exact List.mem_append_left _ he
  ·rcases QZ.1 he with he | he
   ·exact List.mem_append_left _ (Qjv e he)
   ·exact List.mem_append_right _ he
 refine h1.permM ?_
 simp only[XS.flat,XS.ent]
 have:=K1 ms S.mem
 rw[←List.append_assoc]
 exact((JI.trans this).append_right _).symm
theorem Qdh(ks ms:List Nat)(S1:St):(S.out ks ms S1).flat=((S.ent ks ms).re S1).flat:=by simp[XS.flat,XS.out,XS.re,XS.ent]
theorem Ri{S0 S':XS}{Γ:Shp}(h:Rel X β ρ S'.flat a w)(hk:S'.fix=S0.fix∧S'.fixM=S0.fixM∧S'.prot=S0.prot){x:Γ.De}(hd:S'.dec Γ=some x) :
  ∃β' ρ',agP S0.prot β β' ρ ρ'∧Rel X β' ρ' (S0.re (enc Γ x)).flat a w:=by
 obtain⟨β',ρ',h1,h2⟩:=XS.dec_ok h hd
 rw[hk.2.2]at h1
 rw[hk.1,hk.2.1]at h2
 exact⟨β',ρ',h1,h2⟩
theorem Qr0(h:Rel X β ρ S.flat a w){t:Nat}{x:AV}(he:Xt S.env t=some ⟨t,[],x⟩):Rel X β ρ (XS.put S t [] x).flat a w:=by
 obtain⟨hm,_⟩:=Z3 he
 refine Rel.less (S:=S.flat) h fun e hE=>?_
 rcases QZ.1 hE with hE | hE
 ·rcases QX.1 hE with rfl | hE
  ·exact List.mem_append_left _ hm
  ·exact List.mem_append_left _ (Nq hE).1
 ·exact List.mem_append_right _ hE
theorem Jba(h:Rel X β ρ S.flat a w){t:Nat}{b:Bool}(he:Xt S.env t=some ⟨t,[],.d .bool b⟩):Rel X β ρ (XS.put S t [] (.d .bool b)).flat a w:=by
 obtain⟨hm,_⟩:=Z3 he
 refine Rel.less (S:=S.flat) h fun e hE=>?_
 rcases QZ.1 hE with hE | hE
 ·rcases QX.1 hE with rfl | hE
  ·exact List.mem_append_left _ hm
  ·exact List.mem_append_left _ (Nq hE).1
 ·exact List.mem_append_right _ hE
theorem Vu(hT:Q9 P Y.T)(hK:KsX P Y X K)(hX:X.n=n)(hr:X.res=[]){ops:List Oper}{Q:Exit→Act→World→Prop}:∀{R:Type} {r:R} (h:Hn) {l rest:List Oper} {S:XS} {β:Nat→Nat} {ρ:Nat→Value} {a:Act} {w:World} {k:XS→Option R},
  Rel X β ρ S.flat a w→Y4 Y K n ops h l S k=some r→KOk P ⟨ops⟩ Q rest X S β ρ k r→wpList P ⟨ops⟩ Q (l++rest) a w
 | R,r,.done,l,rest,S,β,ρ,a,w,k,hS,hs,H=>by
  cases l with
  | nil=>exact H β ρ S a w (by simp_all [Y4]) (Vb.refl _ _ _) hS
  | cons o l=>simp[Y4]at hs
 | R,r,.n m g,l,rest,S,β,ρ,a,w,k,hS,hs,H=>by
  simp only[Y4]at hs
  have:=Qy3 (P:=P) (X:=X) (Q:=Q) (r:=r) (Qjj Y n ops) (fun h1 h2 h3=>Ji8 hT hX hr h1 h2 h3) (l1:=l.take m) (rest:=l.drop m++rest) hS hs fun β' ρ' S' a' w' h1 h2 h3=>Vu hT hK hX hr g h3 h1 (H.after h2)
  rwa[←List.append_assoc,List.take_append_drop]at this
 | R,r,.nl m g,l,rest,S,β,ρ,a,w,k,hS,hs,H=>by
  simp only[Y4]at hs
  have:=Qy3 (P:=P) (X:=X) (Q:=Q) (r:=r) (Gx.stepL Y n ops) (fun h1 h2 h3=>Q1o hT hX hr h1 h2 h3) (l1:=l.take m) (rest:=l.drop m++rest) hS hs fun β' ρ' S' a' w' h1 h2 h3=>Vu hT hK hX hr g h3 h1 (H.after h2)
  rwa[←List.append_assoc,List.take_append_drop]at this
 | R,r,.call c g,l,rest,S,β,ρ,a,w,k,hS,hs,H=>by
  simp only[Y4]at hs
  split at hs
  ·rename_i con o l' hc
   split at hs
   ·rename_i hg
    have hcm:=hK.1 con (List.mem_of_getElem? hc)
    exact Qns hX hr hS (Hk (Ng hg) _) hcm.1 hK.2 hcm.2 hs fun β' ρ' S' a' w' h1 h2 h3=>Vu hT hK hX hr g h3 h1 (H.after h2)
   ·rename_i t want hg
    split at hs
    ·rename_i t' b he
     split at hs
     ·rename_i hb
      have hbw:b=want:=by simpa using hb
      subst hbw
      obtain⟨cs,h1,h2⟩:=hS.get he (Qf a)
      have h2':cs=_:=h2
      subst h2'
      have hcm:=hK.1 con (List.mem_of_getElem? hc)
      exact Qns hX hr hS ((Ug hg).2 h1) hcm.1 hK.2 hcm.2 hs fun β' ρ' S' a' w' h1 h2 h3=>Vu hT hK hX hr g h3 h1 (H.after h2)
     ·cases hs
    ·cases hs
   ·cases hs
  ·cases hs
 | R,r,.br g,l,rest,S,β,ρ,a,w,k,hS,hs,H=>by
  simp only[Y4]at hs
  split at hs
  ·rename_i o l'
   split at hs
   ·rename_i hg
    exact Q2x hT hX hr hS (Hk (Ng hg) _) hs fun β' ρ' S' a' w' h1 h2 h3=>Vu hT hK hX hr g h3 h1 (H.after h2)
   ·rename_i t want hg
    split at hs
    ·rename_i t' b he
     split at hs
     ·rename_i hb
      have hbw:b=want:=by simpa using hb
      subst hbw
      obtain⟨cs,h1,h2⟩:=hS.get he (Qf a)
      have h2':cs=_:=h2
      subst h2'
      exact Q2x hT hX hr hS ((Ug hg).2 h1) hs fun β' ρ' S' a' w' h1 h2 h3=>Vu hT hK hX hr g h3 h1 (H.after h2)
     ·cases hs
    ·cases hs
   ·cases hs
  ·cases hs
 | R,r,.fz id g,l,rest,S,β,ρ,a,w,k,hS,hs,H=>by
  simp only[Y4]at hs
  have h1:Rel X β ρ (XS.flat { S with mem:=Vs [id] S.mem }) a w:=by
   have:=Rel.freeze S.mem (l0:=[]) (F:=S.fixM) (ks:=[id]) hS
   simp only[QV]at this
   exact this
  exact Vu hT hK hX hr g h1 hs (H.after ⟨rfl,rfl,rfl,agP.refl _ _ _⟩)
 | R,r,.keep ts g,l,rest,S,β,ρ,a,w,k,hS,hs,H=>by
  simp only[Y4]at hs
  have h1:Rel X β ρ (XS.flat { S with env:=Quj S.env ts }) a w:=Rel.less (S:=S.flat) hS fun e he=>by
   rcases QZ.1 he with he | he
   ·exact List.mem_append_left _ (Qjv e he)
   ·exact List.mem_append_right _ he
  exact Vu hT hK hX hr g h1 hs (H.after ⟨rfl,rfl,rfl,agP.refl _ _ _⟩)
 | R,r,.op src id d g,l,rest,S,β,ρ,a,w,k,hS,hs,H=>by
  simp only[Y4]at hs
  obtain⟨S1,β1,ρ1,h1,h2,hs⟩:=Q2p hS hs
  exact Vu hT hK hX hr g h2 hs (H.after h1)
 | R,r,.cl id g,l,rest,S,β,ρ,a,w,k,hS,hs,H=>by
  simp only[Y4]at hs
  obtain⟨S1,ρ1,h1,h2,hs⟩:=Qv2 hS hs
  exact Vu hT hK hX hr g h2 hs (H.after h1)
 | R,r,.fm id g,l,rest,S,β,ρ,a,w,k,hS,hs,H=>by
  simp only[Y4]at hs
  obtain⟨S1,h1,h2,hs⟩:=Q2r hS hs
  exact Vu hT hK hX hr g h2 hs (H.after h1)
 | R,r,.md m g,l,rest,S,β,ρ,a,w,k,hS,hs,H=>by simp[Y4]at hs
 | R,r,.tl g,l,rest,S,β,ρ,a,w,k,hS,hs,H=>by simp[Y4]at hs
 | R,r,.dt _ g,l,rest,S,β,ρ,a,w,k,hS,hs,H=>by simp[Y4]at hs
 | R,r,.si t i x y,l,rest,S,β,ρ,a,w,k,hS,hs,H=>by
  simp only[Y4]at hs
  split at hs
  ·rename_i t' kd v he
   obtain⟨hf,hs⟩:=bvT hs
   split at hs
   ·rename_i hv
    subst hv
    have ht:t'=t:=(Z3 he).2
    subst ht
    exact Vu hT hK hX hr x (Qr0 hS he) hs (H.after ⟨rfl,rfl,rfl,agP.refl _ _ _⟩)
   ·exact Vu hT hK hX hr y hS hs H
  ·cases hs
 | R,r,.so t x y,l,rest,S,β,ρ,a,w,k,hS,hs,H=>by simp[Y4]at hs
 | R,r,.sp t m ks ms Γ x y g,l,rest,S,β,ρ,a,w,k,hS,hs,H=>by
  simp only[Y4]at hs
  split at hs
  ·rename_i t' v he
   have ht':t'=t:=(Z3 he).2
   subst ht'
   obtain⟨hb,hs⟩:=bvT hs
   obtain⟨z,hz,hs⟩:=Yt hs
   have hp:=Jba hS he
   have fin:KOk P ⟨ops⟩ Q (l.drop m++rest) X ((XS.put S t' [] (.d .bool v)).ent ks ms) β ρ (fun S'=>S'.dec Γ) z:=by
    intro β1 ρ1 S' a' w' hd hk h1
    obtain⟨β2,ρ2,h2,h3⟩:=Ri (S0:=(XS.put S t' [] (.d .bool v)).ent ks ms) h1 ⟨hk.fix,hk.fixM,hk.prot⟩ hd
    rw[←Qdh]at h3
    refine Vu hT hK hX hr g h3 hs (H.after ⟨rfl,rfl,rfl,?_⟩)
    exact agP.trans hk.ag h2
   have e:l++rest=l.take m++(l.drop m++rest):=by rw[←List.append_assoc,List.take_append_drop]
   rw[e]
   cases v with
   | true =>
    rw[if_pos rfl]at hz
    exact Vu hT hK hX hr x (hp.ent ks ms) hz fin
   | false =>
    rw[if_neg (by simp)]at hz
    exact Vu hT hK hX hr y (hp.ent ks ms) hz fin
  ·cases hs
theorem Qao:∀{R:Type} {r:R} (h:Hn) {S:XS} {β:Nat→Nat} {ρ:Nat→Value} {k:XS→Option R},Rel X β ρ S.flat a w→Rf h S k=some r→∃S' β' ρ',k S'=some r∧Vb S S' β β' ρ ρ'∧Rel X β' ρ' S'.flat a w
 | R,r,.done,S,β,ρ,k,hS,hs=>⟨S,β,ρ,hs,Vb.refl _ _ _,hS⟩
 | R,r,.fz id g,S,β,ρ,k,hS,hs=>by
  simp only[Rf]at hs
  have h1:Rel X β ρ (XS.flat { S with mem:=Vs [id] S.mem }) a w:=by
   have:=Rel.freeze S.mem (l0:=[]) (F:=S.fixM) (ks:=[id]) hS
   simp only[QV]at this
   exact this
  obtain⟨S',β',ρ',q1,q2,q3⟩:=Qao g h1 hs
  exact⟨S',β',ρ',q1,⟨q2.fix,q2.fixM,q2.prot,q2.ag⟩,q3⟩
 | R,r,.op src id d g,S,β,ρ,k,hS,hs=>by
  simp only[Rf]at hs
  obtain⟨S1,β1,ρ1,h1,h2,hs⟩:=Q2p hS hs
  obtain⟨S',β',ρ',q1,q2,q3⟩:=Qao g h2 hs
  exact⟨S',β',ρ',q1,h1.trans q2,q3⟩
 | R,r,.cl id g,S,β,ρ,k,hS,hs=>by
  simp only[Rf]at hs
  obtain⟨S1,ρ1,h1,h2,hs⟩:=Qv2 hS hs
  obtain⟨S',β',ρ',q1,q2,q3⟩:=Qao g h2 hs
  exact⟨S',β',ρ',q1,h1.trans q2,q3⟩
 | R,r,.fm id g,S,β,ρ,k,hS,hs=>by
  simp only[Rf]at hs
  obtain⟨S1,h1,h2,hs⟩:=Q2r hS hs
  obtain⟨S',β',ρ',q1,q2,q3⟩:=Qao g h2 hs
  exact⟨S',β',ρ',q1,h1.trans q2,q3⟩
 | R,r,.n _ _,S,β,ρ,k,hS,hs=>by simp[Rf]at hs
 | R,r,.nl _ _,S,β,ρ,k,hS,hs=>by simp[Rf]at hs
 | R,r,.md _ _,S,β,ρ,k,hS,hs=>by simp[Rf]at hs
 | R,r,.keep _ _,S,β,ρ,k,hS,hs=>by simp[Rf]at hs
 | R,r,.sp _ _ _ _ _ _ _ _,S,β,ρ,k,hS,hs=>by simp[Rf]at hs
 | R,r,.call _ _,S,β,ρ,k,hS,hs=>by simp[Rf]at hs
 | R,r,.tl _,S,β,ρ,k,hS,hs=>by simp[Rf]at hs
 | R,r,.dt id g,S,β,ρ,k,hS,hs=>by
  simp only[Rf]at hs
  split at hs
  ·rename_i tid c hm
   obtain⟨S',β',ρ',q1,q2,q3⟩:=Qao g (Ju7 hS hm) hs
   exact⟨S',β',ρ',q1,⟨q2.fix,q2.fixM,q2.prot,q2.ag⟩,q3⟩
  ·cases hs
 | R,r,.so _ _ _,S,β,ρ,k,hS,hs=>by simp[Rf]at hs
 | R,r,.si _ _ _ _,S,β,ρ,k,hS,hs=>by simp[Rf]at hs
def TOk(P:Program)(ops:Array Oper)(Q:Act→Prop)(rest:List Oper)(X:Cx)(w:World)(S0:XS)(β:Nat→Nat)(ρ:Nat→Value){R:Type}(k:XS→Option R)(r:R):Prop :=
 ∀(β':Nat→Nat) (ρ':Nat→Value) (S':XS) (a':Act),k S'=some r→Vb S0 S' β β' ρ ρ'→Rel X β' ρ' S'.flat a' w→wpStill P ops w Q rest a'
theorem TOk.after{ops:Array Oper}{Q:Act→Prop}{rest:List Oper}{k:XS→Option R}(h:TOk P ops Q rest X w S β ρ k r){S1:XS}{β1:Nat→Nat}{ρ1:Nat→Value}(hk:Vb S S1 β β1 ρ ρ1):TOk P ops Q rest X w S1 β1 ρ1 k r :=
 fun β' ρ' S' a' h1 h2 h3=>h β' ρ' S' a' h1 (hk.trans h2) h3
section
variable {ops:List Oper} {Qs:Act→Prop} {rest:List Oper} {k:XS→Option R}
theorem Q28{o:Oper}(hw:Region.wanted o (yielded ⟨ops⟩ a.tmps)=true){v:Value}(hr:(execOp a.eval o).run P w=.ok (.value v) w)(h:wpStill P ⟨ops⟩ w Qs rest (a.put o.dst v)):wpStill P ⟨ops⟩ w Qs (o::rest) a:=by
 simp_all [wpStill,if_pos,Oper.still,Oper.stillUpon_value]
theorem Qr1{o:Oper}(hw:Region.wanted o (yielded ⟨ops⟩ a.tmps)=false)(h:wpStill P ⟨ops⟩ w Qs rest (a.put o.dst undef)):wpStill P ⟨ops⟩ w Qs (o::rest) a:=by
 simp_all [wpStill,if_neg]
theorem Qr2(hT:Q9 P Y.T)(hX:X.n=n)(hr:X.res=[])(h:Rel X β ρ S.flat a w){o:Oper}(hw:Region.wanted o (yielded ⟨ops⟩ a.tmps)=true)(hs:Q2k Y n o S k=some r)(H:TOk P ⟨ops⟩ Qs rest X w S β ρ k r):wpStill P ⟨ops⟩ w Qs (o::rest) a:=by
 unfold Q2k at hs
 split at hs
 ·rename_i d hd
  obtain⟨hb,hs⟩:=bvT hs
  obtain⟨av,hk,hsem⟩:=Q2f (P:=P) hT rfl hs
  obtain⟨h1,h2⟩:=Vt hb hX hr
  obtain⟨cs,h3,h4⟩:=hsem h.toW (Qf a)
  refine Q28 hw h3 ?_
  rw[hd]
  refine H β ρ _ _ hk (H7 S d [] av) ?_
  rw[Ge h2]
  exact h.put0 h1 h4
 ·cases hs
theorem Q29(hX:X.n=n)(hr:X.res=[])(h:Rel X β ρ S.flat a w){o:Oper}(hw:Region.wanted o (yielded ⟨ops⟩ a.tmps)=false)(hs:Qdd n o S k=some r)(H:TOk P ⟨ops⟩ Qs rest X w S β ρ k r):wpStill P ⟨ops⟩ w Qs (o::rest) a:=by
 refine Qr1 hw ?_
 unfold Qdd at hs
 split at hs
 ·rename_i d hd
  obtain⟨hb,hk⟩:=bvT hs
  obtain⟨h1,h2⟩:=Vt hb hX hr
  rw[hd]
  refine H β ρ _ _ hk (H7 S d [] _) ?_
  rw[Ge h2]
  exact h.put0 h1 (x:=.tp .nil) (c:=[.tuple #[]]) ⟨[],rfl,rfl⟩
 ·rename_i hd
  rw[hd]
  exact H β ρ _ _ hs (Vb.refl _ _ _) h
theorem Jen(hT:Q9 P Y.T)(hX:X.n=n)(hr:X.res=[])(h:Rel X β ρ S.flat a w){o:Oper}{t:Nat}{want:Bool}(hg:Qhl ops o=some (some (t,want)))(hs:Qji Y n t want o S k=some r)(H:TOk P ⟨ops⟩ Qs rest X w S β ρ k r) :
  wpStill P ⟨ops⟩ w Qs (o::rest) a:=by
 unfold Qji at hs
 split at hs
 ·rename_i t' cs b d he hd
  obtain⟨hb,hs⟩:=bvT hs
  simp only[QJ]at hb
  obtain⟨h1,h2⟩:=Vt hb.1.1 hX hr
  have htd:=neB hb.1.2
  have hud:∀c∈cs,c.1≠d:=Qc7 (by grind)
  split at hs
  ·rename_i v hv
   obtain⟨hm,ht'⟩:=Z3 he
   simp only at ht'
   subst ht'
   have hkeep:∀u:Value,Jx (a.put (some d) u) ((t',want)::cs)↔Jx a ((t',want)::cs):=by
    intro u
    have hne:∀c∈(t',want)::cs,c.1≠d:=by
     grind
    exact⟨fun hc c hm=>by rw[←Vd (hne c hm) u]; exact hc c hm,fun hc c hm=>by rw[Vd (hne c hm) u]; exact hc c hm⟩
   by_cases hw:Region.wanted o (yielded ⟨ops⟩ a.tmps)=true
   ·have htb:=(Ug hg).1 hw
    have hcs:Jx a cs:=by
     rcases(h.en hm).2 with h3 | h3
     ·exact h3
     grind [Pn,Qc5,undef]
    have hcur:Jx a ((t',want)::cs):=by
     intro c hc
     rcases QX.1 hc with rfl | hc
     ·exact htb
     ·exact hcs c hc
    obtain⟨c,h3,h4⟩:=Qjf hT h.toW hcur hv
    refine Q28 hw h3 ?_
    rw[hd]
    refine H β ρ _ _ hs (H7 S d _ _) ?_
    rw[Ge h2]
    exact h.put h1 (fun _=>⟨c,rfl,h4⟩) (.inl ((hkeep _).2 hcur))
   ·have hw':Region.wanted o (yielded ⟨ops⟩ a.tmps)=false:=by simpa using hw
    refine Qr1 hw' ?_
    rw[hd]
    refine H β ρ _ _ hs (H7 S d _ _) ?_
    rw[Ge h2]
    refine h.put h1 (fun hc=>?_) (.inr rfl)
    have:=(hkeep _).1 hc
    exact absurd ((Ug hg).2 (this _ (.head _))) hw
  ·cases hs
 ·cases hs
theorem Jeo(hT:Q9 P Y.T)(hX:X.n=n)(hr:X.res=[])(h:Rel X β ρ S.flat a w){o:Oper}(hs:Qyv Y n ops o S k=some r)(H:TOk P ⟨ops⟩ Qs rest X w S β ρ k r):wpStill P ⟨ops⟩ w Qs (o::rest) a:=by
 grind [Qyv,Qr2,Hk,Ng,Jen]
theorem Jep(hT:Q9 P Y.T)(hX:X.n=n)(hr:X.res=[])(h:Rel X β ρ S.flat a w){o:Oper}(hs:Qyw Y n ops o S k=some r)(H:TOk P ⟨ops⟩ Qs rest X w S β ρ k r):wpStill P ⟨ops⟩ w Qs (o::rest) a:=by
 unfold Qyw at hs
 split at hs
 ·grind [Qr2,Hk,Ng]
 ·rename_i t want hg
  split at hs
  ·rename_i t' b he
   obtain⟨cs,h1,h2⟩:=h.get he (Qf a)
   have h2':cs=_:=h2
   subst h2'
   have h1':a.tmps[t]?=some (.bool b):=h1
   split at hs
   ·grind [Qr2,Ug]
   ·rename_i hb
    refine Q29 hX hr h ?_ hs H
    have hne:b≠want:=by simpa using hb
    cases hw:Region.wanted o (yielded ⟨ops⟩ a.tmps)with
    | false=>rfl
    | true =>
     have:=(Ug hg).1 hw
     rw[h1']at this
     grind
  ·rename_i t' he
   obtain⟨cs,h1,vs,h2,h3⟩:=h.get he (Qf a)
   subst h2
   refine Q29 hX hr h ?_ hs H
   cases hw:Region.wanted o (yielded ⟨ops⟩ a.tmps)with
   | false=>rfl
   | true =>
    have:=(Ug hg).1 hw
    rw[h1]at this
    injection this with this
    cases this
  ·cases hs
 ·cases hs
theorem Qr3(st:Oper→XS→(XS→Option R)→Option R)
  (hst:∀{o:Oper} {rest:List Oper} {S:XS} {β:Nat→Nat} {ρ:Nat→Value} {a:Act} {k:XS→Option R},Rel X β ρ S.flat a w→st o S k=some r→TOk P ⟨ops⟩ Qs rest X w S β ρ k r→wpStill P ⟨ops⟩ w Qs (o::rest) a) :
  ∀{l1 rest:List Oper} {S:XS} {β:Nat→Nat} {ρ:Nat→Value} {a:Act} {k:XS→Option R},Rel X β ρ S.flat a w→Qol st l1 S k=some r→TOk P ⟨ops⟩ Qs rest X w S β ρ k r→wpStill P ⟨ops⟩ w Qs (l1++rest) a
 | [],rest,S,β,ρ,a,k,h,hs,H=>H β ρ S a hs (Vb.refl _ _ _) h
 | o::l1,rest,S,β,ρ,a,k,h,hs,H=>by
  simp only[Qol]at hs
  refine hst (rest:=l1++rest) h hs fun β' ρ' S' a' hk hkeep h'=>?_
  exact Qr3 st hst h' hk (H.after hkeep)
end
theorem Qap(hT:Q9 P Y.T)(hX:X.n=n)(hr:X.res=[]){ops:List Oper}{Qs:Act→Prop}:∀{R:Type} {r:R} (h:Hn) {l rest:List Oper} {S:XS} {β:Nat→Nat} {ρ:Nat→Value} {a:Act} {k:XS→Option R},
  Rel X β ρ S.flat a w→Nv Y n ops h l S k=some r→TOk P ⟨ops⟩ Qs rest X w S β ρ k r→wpStill P ⟨ops⟩ w Qs (l++rest) a
 | R,r,.done,l,rest,S,β,ρ,a,k,hS,hs,H=>by
  cases l with
  | nil=>exact H β ρ S a (by grind [Nv]) (Vb.refl _ _ _) hS
  | cons o l=>simp[Nv]at hs
 | R,r,.n m g,l,rest,S,β,ρ,a,k,hS,hs,H=>by
  simp only[Nv]at hs
  have:=Qr3 (P:=P) (X:=X) (w:=w) (r:=r) (Qyv Y n ops) (fun h1 h2 h3=>Jeo hT hX hr h1 h2 h3) (l1:=l.take m) (rest:=l.drop m++rest) hS hs fun β' ρ' S' a' h1 h2 h3=>Qap hT hX hr g h3 h1 (H.after h2)
  rwa[←List.append_assoc,List.take_append_drop]at this
 | R,r,.nl m g,l,rest,S,β,ρ,a,k,hS,hs,H=>by
  simp only[Nv]at hs
  have:=Qr3 (P:=P) (X:=X) (w:=w) (r:=r) (Qyw Y n ops) (fun h1 h2 h3=>Jep hT hX hr h1 h2 h3) (l1:=l.take m) (rest:=l.drop m++rest) hS hs fun β' ρ' S' a' h1 h2 h3=>Qap hT hX hr g h3 h1 (H.after h2)
  rwa[←List.append_assoc,List.take_append_drop]at this
 | R,r,.call c g,l,rest,S,β,ρ,a,k,hS,hs,H=>by simp[Nv]at hs
 | R,r,.fz id g,l,rest,S,β,ρ,a,k,hS,hs,H=>by simp[Nv]at hs
 | R,r,.keep ts g,l,rest,S,β,ρ,a,k,hS,hs,H=>by simp[Nv]at hs
 | R,r,.md m g,l,rest,S,β,ρ,a,k,hS,hs,H=>by simp[Nv]at hs
 | R,r,.cl _ _,l,rest,S,β,ρ,a,k,hS,hs,H=>by simp[Nv]at hs
 | R,r,.op _ _ _ _,l,rest,S,β,ρ,a,k,hS,hs,H=>by simp[Nv]at hs
 | R,r,.fm _ _,l,rest,S,β,ρ,a,k,hS,hs,H=>by simp[Nv]at hs
 | R,r,.tl g,l,rest,S,β,ρ,a,k,hS,hs,H=>by simp[Nv]at hs
 | R,r,.dt _ g,l,rest,S,β,ρ,a,k,hS,hs,H=>by simp[Nv]at hs
 | R,r,.si _ _ _ _,l,rest,S,β,ρ,a,k,hS,hs,H=>by simp[Nv]at hs
 | R,r,.so t x y,l,rest,S,β,ρ,a,k,hS,hs,H=>by simp[Nv]at hs
 | R,r,.sp t m ks ms Γ x y g,l,rest,S,β,ρ,a,k,hS,hs,H=>by
  simp only[Nv]at hs
  split at hs
  ·rename_i t' v he
   have ht':t'=t:=(Z3 he).2
   subst ht'
   obtain⟨hb,hs⟩:=bvT hs
   obtain⟨z,hz,hs⟩:=Yt hs
   have hp:=Jba hS he
   have fin:TOk P ⟨ops⟩ Qs (l.drop m++rest) X w ((XS.put S t' [] (.d .bool v)).ent ks ms) β ρ (fun S'=>S'.dec Γ) z:=by
    intro β1 ρ1 S' a' hd hk h1
    obtain⟨β2,ρ2,h2,h3⟩:=Ri (S0:=(XS.put S t' [] (.d .bool v)).ent ks ms) h1 ⟨hk.fix,hk.fixM,hk.prot⟩ hd
    rw[←Qdh]at h3
    refine Qap hT hX hr g h3 hs (H.after ⟨rfl,rfl,rfl,?_⟩)
    exact agP.trans hk.ag h2
   have e:l++rest=l.take m++(l.drop m++rest):=by rw[←List.append_assoc,List.take_append_drop]
   rw[e]
   cases v with
   | true =>
    rw[if_pos rfl]at hz
    exact Qap hT hX hr x (hp.ent ks ms) hz fin
   | false =>
    rw[if_neg (by simp)]at hz
    exact Qap hT hX hr y (hp.ent ks ms) hz fin
  ·cases hs
theorem Rel.drew(h:Rel X β ρ S.flat a w):Rel X β ρ S.flat a { w with drawn:=w.drawn+1 }:=Sb.below h ((Below.refl _ _).drew)
end
end Gx
