/- Literals as rows; maps whose values are objects of their own. -/
import Derived.Test.YtcaflpbiaeemgaaGreatXM
import Derived.StillTail
set_option linter.unusedVariables false
set_option linter.unusedSimpArgs false
namespace Gx
open Go Go.RowKit Gd
theorem Jcb{v:Value}(h:Qxr v=true):v=.map none:=by
 grind [Qxr]
theorem Jil{v:Value}(h:Q6y v=true):v=.slice none 0 0:=by
 grind [Q6y]
def J73:CK→Value
 | .sl _ _=>.slice none 0 0
 | .mp _ _=>.map none
theorem Q3m{c:CK}{v:Value}(h:Jib c v=true):v=J73 c:=by
 cases c with
 | sl e u=>exact Jil h
 | mp k w=>exact Jcb h
theorem Juc{c:CK}:(J73 c).oneCell'=true:=by cases c<;>rfl
theorem Jud{β:Nat→Nat}{ρ:Nat→Value}{ok:Ok}{w:World}{M:List (Nat×Ob)}(hM:∀id o,Qk M id=some o→(Jb β ρ id o).p ok w){R:Type}{kk:Ty}(hk:Qh9 kk=true){c:CK}{xs:List (kk.De×c.ty.De)}{hole:Option (kk.De×Nat)}{key:kk.De}{vs:List Value}{ys:List (kk.De×Value)}
  (hrel:Ny c (Jbf hole) (Tt β ρ c hole) ok w xs ys vs) (habs:∀k,Jbf hole=some k→k∉xs.map Prod.fst→Tt β ρ c hole=.slice none 0 0) {z:Value} (hz:Jib c z=true) {av:AV}
  (hav:(∃q,hole=some q∧B6 (Qt2 c (Qk M q.2))=true∧eqK kk key q.1=true∧av=avC c q.2)∨(hole=none∧(∃k v,c=.mp k v)∧Qz key xs=none∧av=.nm)) :
  ∃cs,(Qz key ys).getD z=av.val cs∧cr β ρ ok w false av cs:=by
 have hz:=Q3m hz;rcases hav with⟨q,rfl,hq,he,rfl⟩ | ⟨rfl,⟨k2,v2,rfl⟩,hn,rfl⟩
 ·have hkq:=(Gk hk).1 he
  have hzal:zal ((Qz key ys).getD z) (Tt β ρ c (some q)):=by
   rcases Qr1 key hrel with⟨q1,q2⟩ | ⟨x,y,q1,q2,k1,q3,q4,q5⟩
   ·have hab:=habs q.1 rfl (by rw[←hkq]; exact Q22 hk q1)
    rw[q2,hab];cases c with
    | sl e u=>exact .inl hz
    | mp k v=>cases hab
   ·rw[q2]
    exact q5 (by rw[←(Gk hk).1 q3,hkq]; rfl)
  cases hx:Qt2 c (Qk M q.2)with
  | none=>rw[hx]at hq; cases hq
  | some x0 =>
   have hob:=hM _ _ (Qx7 hx);cases c with
   | sl e u =>
    obtain⟨_,cs,hown,_⟩:=hob;refine⟨[(Qz key ys).getD z],rfl,⟨_,rfl,hzal⟩,?_⟩;rcases hown.2 with⟨hv,_⟩ | ⟨g,cap,cur,fz,hv,_⟩<;>exact⟨_,_,_,hv⟩
   | mp k v =>
    rcases hzal with h1 | ⟨h1,_⟩
    ·exact⟨[.map (some (β q.2))],h1,rfl⟩
    ·cases h1
 ·have:Qz key ys=none:=by
   grind [Qr1]
  rw[this];exact⟨[.map none],hz,rfl⟩
section
variable {P:Program} {Y:TX} {X:Cx} {S:XS} {β β':Nat→Nat} {ρ ρ':Nat→Value} {a a':Act} {w w':World} {n:Nat}
variable {ops:Array Oper} {Q:Exit→Act→World→Prop} {rest:List Oper} {R:Type} {k:XS→Option R} {r:R}
theorem Jim(hX:X.n=n)(hr:X.res=[])(h:Rel X β ρ S.flat a w){o:Oper}(hw:Region.wanted o (yielded ops a.tmps)=true){d:Nat}(hd:o.dst=some d)(hwd:okW n S d=true)(hb:okB S d=true){t:TypeId}(hop:o.op=.makeMap t none){kk:Ty}{c:CK}
  (hk:k ((S.born d (.mapC kk c [] none)).put d [] (.m d))=some r) (H:KOk P ops Q rest X S β ρ k r):wpList P ops Q (o::rest) a w:=by
 obtain⟨h1,h2⟩:=Ue hwd hX hr;obtain⟨f1,f2,f3⟩:=Ch hb
 have hrun:(execOp a.eval o).run P w=.ok (.value (.map (some w.heap.size))) (w.alloc (.map #[] 0)):=by
  simp_all [execOp,Instr.makeMap]
 refine J5 hw (Vi hrun ?_);rw[hd];have ha:=Qr7 d β ρ w.heap.size (.tuple #[]);have hbel:Below w.heap.size w (w.alloc (.map #[] 0)):=(Below.refl _ _).alloc (QY _) _;refine H (upd β d w.heap.size) (upd ρ d (.tuple #[])) _ _ _ hk (Kn f3 ha _ _ _) ?_
 have hA:Rel X (upd β d w.heap.size) (upd ρ d (.tuple #[])) ⟨Vw (Ux d S.env) d++S.fix,(d,.mapC kk c [] none)::(S.mem++S.fixM)⟩ a (w.alloc (.map #[] 0)):=by
  refine Rel.alloc h ha f1 (fun e he=>let⟨q1,q2,_⟩:=T3 f2 h2 e he; ⟨q1,q2⟩) hbel (fun g hg=>?_) ?_
  ·have hg':g=upd β d w.heap.size d∨∃v∈Qfs (upd ρ d (.tuple #[]) d),Wa v=some g:=hg
   rw[Jm,Jm]at hg';rcases hg' with hg' | ⟨v,hv,_⟩
   ·omega
   ·cases hv
  ·refine⟨[],⟨#[],0,?_,rfl,by simp,by simp⟩,?_,by simp,?_,?_,fun _ e=>by cases e⟩
   ·rw[Jm]; exact heap_alloc_new w _
   ·rw[Jm]; trivial
   ·rw[Jm]; exact .nil
   grind [Jm,Qfs]
 have hP:=hA.put0 h1 (x:=.m d) (c:=[.map (some (upd β d w.heap.size d))]) rfl;have hv:(AV.m d).val [.map (some (upd β d w.heap.size d))]=.map (some w.heap.size):=by rw[Jm]; rfl
 rw[hv]at hP;have he:((S.born d (.mapC kk c [] none)).put d [] (.m d)).flat=⟨⟨d,[],.m d⟩::(Vw (Ux d S.env) d++S.fix),(d,.mapC kk c [] none)::(S.mem++S.fixM)⟩:=rfl;rw[he];refine hP.less fun e hm=>?_;rcases QX.1 hm with rfl | hm
 ·exact .head _
 ·refine .tail _ ?_
  have:Vw (Vw (Ux d S.env) d++S.fix) d=Vw (Ux d S.env) d++S.fix:=by
   rw[Pe h2];congr 1
   have idem:∀l:List En,Vw (Vw l d) d=Vw l d:=by
    intro l
    induction l with
    | nil=>rfl
    | cons x l ih =>
     simp only[Vw];cases hb:(Nat.beq x.t d||Qi8 d x.cs)with
     | true=>simpa using ih
     | false=>simp_all [cond_false,Vw]
   exact idem _
  show e∈Vw (Vw (Ux d S.env) d++S.fix) d;rw[this]; exact hm
theorem Jue{β:Nat→Nat}{ρ:Nat→Value}{ok:Ok}{a:Act}{w:World}{S:St}(h:N0 β ρ ok S a w){cur:V5}(hc:J6 a cur){ky:Operand}{kv:AV}(hkv:Gx.ev S cur ky=some kv){kk:Ty}{key:kk.De}(hkey:asD [] kv kk=some key){d:TypeDesc}{T:Tab}(hdk:V6 T kk d=true)(hka:(kk.agg==kv.isAgg)=true):a.eval ky=Vt kk key:=by
 obtain⟨c3,h3,h4⟩:=h.ev hc hkv;refine O9 (ok:=ok) (w:=w) (Uw hdk) ⟨c3,Gl (M:=[]) (β:=β) (ρ:=ρ) (by simp[Qk]) hkey h4,?_⟩;rw[h3]; simp_all [AV.val,RT.val,Tq,bEq]
theorem Jcc(hT:Jg P Y.T)(hX:X.n=n)(hr:X.res=[])(h:Rel X β ρ S.flat a w){o:Oper}(hw:Region.wanted o (yielded ops a.tmps)=true)(hs:Qnc Y n o S k=some r)(H:KOk P ops Q rest X S β ρ k r):wpList P ops Q (o::rest) a w:=by
 unfold Qnc at hs;split at hs
 ·rename_i t m ps d hop hd
  split at hs
  ·rename_i te hte
   split at hs
   ·rename_i e htd0
    split at hs
    ·rename_i ee u vs he hu hvs
     split at hs
     ·rename_i xs hxs
      obtain⟨hb,hk⟩:=bvT hs;simp only[QQ]at hb;obtain⟨⟨⟨⟨⟨⟨hwd,hbb⟩,hsz⟩,hl⟩,hsm⟩,hpos⟩,hzl⟩:=hb;have htd:=Vb htd0;obtain⟨f1,f2,f3⟩:=Ch hbb;obtain⟨h1,h2⟩:=Ue hwd hX hr;have hg:=T2 h hw;obtain⟨us,q1,q2,q3,q4⟩:=Q65 h hvs hxs;have hes:=Nat.eq_of_beq_eq_true hsz;have hxl:=Nat.eq_of_beq_eq_true hl;have hcl:∀v∈us,(Q4 v).length=ee.size:=fun v hv=>by rw[Qry q2 v hv,Jo,hes]
      have hz0:(Kj (Q4 ee.z) ((m+1)*ee.size)).length=(m+1)*ee.size:=by simp[Kj]
      have hfill:=Jbr us 0 (Kj (Q4 ee.z) ((m+1)*ee.size)) hcl (by rw[hz0,QW,q3,hxl]; grind);rw[←q1]at hfill
      have hfill':Qbt (Qi2 ee.size) (Kj (Q4 ee.z) ((m+1)*ee.size)) (ps.map (fun p=>(p.1,a.eval p.2)))=some (us.flatMap Q4):=by
       rw[hfill];grind
      rw[N4 o,hd,hop]at hg ⊢;refine Jb9 hT h.toG (r:=rt u) hg h1 q4 hte htd he (by rw[Jo]; exact hes) hxl hsm hpos (JS (QN _)) hzl hfill' q2 fun b a' w' hS=>?_;refine H β (upd ρ d (.slice (some ⟨b,0,none⟩) xs.length (m+1))) _ _ _ hk (Kn f3 (Yg d β ρ _) _ _ _) ?_;have:=Xi (o:=.row e u xs) hX hr h.sz hwd f1 f2 f3 hS (by grind [Jb,Jm,Fx.refl]) ⟨_,_,_,rfl⟩;exact this
     ·cases hs
    ·cases hs
   ·cases hs
  ·cases hs
 ·
  rename_i t rs d hop hd;split at hs
  ·rename_i te hte
   split at hs
   ·rename_i kt et htd
    split at hs
    ·rename_i kk c hkk hc
     obtain⟨hb,hk⟩:=bvT hs;simp only[QQ]at hb;have hrs:=Qly hb.2;grind [Jim]
    ·cases hs
   ·cases hs
  ·cases hs
 ·
  rename_i t m ky x hop hd;split at hs
  ·rename_i te id kv xv hte hm hkv hx
   split at hs
   ·rename_i kt et kk c xs hole htd hmo
    split at hs
    ·rename_i tk key htk hkey
     obtain⟨hb,hs⟩:=bvT hs;simp only[QQ]at hb;grind [J55]
    ·cases hs
   ·cases hs
  ·cases hs
 ·
  rename_i t m ky d hop hd;split at hs
  ·rename_i te kv hte hkv
   split at hs
   ·rename_i kt et htd
    split at hs
    ·rename_i tk tz id htk htz hm
     split at hs
     ·rename_i kk c xs hole hmo
      split at hs
      ·rename_i key hkey
       replace hs:=bvT hs;obtain⟨hb,hs⟩:=hs;simp only[QQ]at hb;obtain⟨⟨⟨hwd,hdk⟩,hka⟩,hz⟩:=hb
       have gen:∀av,((∃q,hole=some q∧B6 (Qt2 c (Qk S.flat.mem q.2))=true∧eqK kk key q.1=true∧av=avC c q.2)∨(hole=none∧(∃k v,c=.mp k v)∧Qz key xs=none∧av=.nm))→k (S.put d [] av)=some r→wpList P ops Q (o::rest) a w:=by
        intro av hav hk;refine Jtz hX hr h hw hd hwd (x:=av) (fun {β ρ ok a w} h hc=>?_) hk H;obtain⟨c1,h1,h2⟩:=h.ev hc hm;have h2':c1=[.map (some (β id))]:=h2;subst h2';have h1':a.eval m=.map (some (β id)):=h1;have hke:=Jue h hc hkv hkey hdk hka;obtain⟨ys,⟨es,clock,hg,hp,_⟩,hrel,_,_,_,habs⟩:=h.mm _ _ hmo;obtain⟨v,hrun,hv,_⟩:=Qxj hT hte htd htk htz hdk hg hp key (z:=tz.z) ⟨[tz.z],⟨rfl,by rw[Q3m hz]; exact Juc⟩,rfl⟩ false;obtain⟨cs0,⟨e0,_⟩,hv⟩:=hv;have hv:v=(Qz key ys).getD tz.z:=by rw[hv,e0]; rfl
        obtain⟨cs,q1,q2⟩:=Jud (R:=R) h.mm (Uw hdk) hrel habs hz hav;refine⟨cs,?_,q2⟩;unfold execOp;rw[hop];simp only[h1',hke];simp only[QG,if_false]at hrun;simp[hrun,hv,q1]
       unfold Jic at hs;split at hs
       ·rename_i q
        replace hs:=bvT hs;obtain⟨hq,hs⟩:=hs;obtain⟨_,hch,hk⟩:=Y0 hs;unfold chk at hch;grind
       ·rename_i k2 v2 xs
        obtain⟨_,hch,hk⟩:=Y0 hs;unfold chk at hch;exact gen _ (.inr ⟨rfl,⟨_,_,rfl⟩,Qly (bvT hch).1,rfl⟩) hk
       ·cases hs
      ·cases hs
     grind [Q3l]
    ·rename_i tk tz htk htz hm
     split at hs
     ·rename_i kk v hkk hvv
      split at hs
      ·rename_i key za hkey hza
       split at hs
       ·rename_i z hz
        obtain⟨hb,hk⟩:=bvT hs;simp only[QQ]at hb;obtain⟨⟨⟨hwd,hdk⟩,hka⟩,hva⟩:=hb;refine Jtz hX hr h hw hd hwd (x:=.d v z) (fun {β ρ ok a w} h hc=>?_) hk H;obtain⟨c1,h1,h2⟩:=h.ev hc hm;have h2':c1=[.map none]:=h2;subst h2';have h1':a.eval m=.map none:=h1;have hke:=Jue h hc hkv hkey hdk hka;have hrun:=Q1e (w:=w) hT hte htd htk htz hdk key false;refine⟨Q4 tz.z,?_,Gl (M:=[]) (β:=β) (ρ:=ρ) (by simp[Qk]) hz (Ti hza)⟩
        have hvz:(AV.d v z).val (Q4 tz.z)=tz.z:=by
         have:=Q21 (bEq hva);grind [AV.val,AV.isAgg,RT.val,Tq]
        unfold execOp;rw[hop];simp only[h1',hke,hvz];simp only[QG,if_false]at hrun;simp[hrun]
       ·cases hs
      ·cases hs
     ·cases hs
    ·cases hs
   ·cases hs
  ·cases hs
 ·cases hs
end
end Gx

/- Calls. -/
namespace Gx
open Go Go.RowKit Gd
def Jcd(c:Con)(β:Nat→Nat)(ρ:Nat→Value)(ok:Ok)(L:List Nat)(w:World)(x:c.Γ.De)(y:Qia c.Δ)(v:Value)(w':World):Prop :=
 ∃(β':Nat→Nat) (ρ':Nat→Value),agP (c.Γ.mem.map Prod.fst) β β' ρ ρ' ∧
  (∃cs,v=(Qd7 (Qje c.Δ y).env).val cs∧cr β' ρ' (Jr (okL L ok) w.heap.size (fun _=>0) [] (Qq β' ρ' ((Qje c.Δ y).mem++roM c x)) w') w' false (Qd7 (Qje c.Δ y).env) cs) ∧
  (∀t∈Qq β' ρ' ((Qje c.Δ y).mem++roM c x),t.p (Jr (okL L ok) w.heap.size (fun _=>0) [] (Qq β' ρ' ((Qje c.Δ y).mem++roM c x)) w') w'∧∀g,t.blks g→w.heap.size≤g∨g∈L) ∧
  (Qq β' ρ' ((Qje c.Δ y).mem++roM c x)).Pairwise fun s t=>∀g,s.blks g→¬ t.blks g
def Zj(gl:List (Nat×Σ t:Ty,t.De))(ok:Ok)(w:World):Prop :=
 ∀q∈gl,Qwz (rt q.2.1) ok w q.2.2 (.pointer (some ⟨q.1,0,none⟩))∧ok q.1 0∧∃cs t fz,w.heap[q.1]?=some (.cells cs t fz)∧cs.size=q.2.1.size
theorem Zj.keep{gl:List (Nat×Σ t:Ty,t.De)}{ok:Ok}{w w':World}(h:Zj gl ok w)(hs:w.heap.size≤w'.heap.size)(hb:∀b o,ok b o→w'.heap[b]?=w.heap[b]?):Zj gl ok w' :=
 fun q hq=>let⟨h1,h2,h3⟩:=h q hq; ⟨h1.evo (Evo.of_blocks hs hb),h2,by rw[hb _ _ h2]; exact h3⟩
theorem Zj.weak{gl:List (Nat×Σ t:Ty,t.De)}{ok ok':Ok}{w:World}(h:Zj gl ok w)(hk:∀b o,ok b o→ok' b o):Zj gl ok' w:=fun q hq=>let⟨h1,h2,h3⟩:=h q hq; ⟨h1.weak hk,hk _ _ h2,h3⟩
def okN(X:Cx):Ok:=fun b o=>X.ok b o∧b∉X.lent∧b<X.w.heap.size
theorem Qd9{gl:List (Nat×Σ t:Ty,t.De)}{X:Cx}{β:Nat→Nat}{G:GL}{D:List DF}{O:List TL}{a:Act}{w:World}(h:Sb β X G D [] O a w)(hG:Zj gl (okN X) X.w):Zj gl (Jr X.ok X.w.heap.size β [] O w) w:=by
 refine(hG.keep h.bel.size fun b o hk=>h.bel.block b hk.2.2 hk.2.1).weak fun b o hk=>⟨.inl hk.1,QI hk.2.2 h.bel.size,by simp,fun t ht hc=>?_⟩
 rcases(h.own t ht).2 b (t.cb hc)with h1 | h1
 ·have:=hk.2.2; omega
 ·exact hk.2.1 h1
def Qne(P:Program)(gl:List (Nat×Σ t:Ty,t.De))(c:Con):Prop :=
 ∀(ok:Ok) (w:World) (L:List Nat) (β:Nat→Nat) (ρ:Nat→Value) (x:c.Γ.De) (y:Qia c.Δ) (vs:List Value),(∀b o,ok b o→b<w.heap.size)→Zj gl ok w→vs.length=c.Γ.env.length→Qtu (Qq β ρ (enc c.Γ x).mem) L ok w →
  (∀e∈(enc c.Γ x).env,∃cs,vs[e.t]?=some (e.av.val cs)∧cr β ρ ok w false e.av cs)→c.fn x=some y→Calls P c.f ⟨vs⟩ w (Q6k L w (Jcd c β ρ ok L w x y))
section
variable {β β':Nat→Nat} {ρ ρ':Nat→Value} {ok:Ok} {w:World}
theorem Qf1{g:Nat→Nat}:∀{m:Bool} {x:AV} {cs:List Value},(∀i∈Jk x,β' (g i)=β i∧ρ' (g i)=ρ i)→cr β ρ ok w m x cs→cr β' ρ' ok w m (Gc g x) cs
 | m,.d t x,cs,_,h=>by cases m<;>exact h
 | m,.p id path,cs,hn,h=>by
  have:=(hn id (.head _)).1;cases m<;>(grind [cr,Gc])
 | m,.e id path,cs,hn,h=>by
  have:=(hn id (.head _)).2;cases m<;>(grind [cr,Gc])
 | m,.s id,cs,hn,h=>by
  have:=(hn id (.head _)).2;cases m<;>(grind [cr,Gc])
 | m,.m id,cs,hn,h=>by
  have:=(hn id (.head _)).1;cases m<;>(grind [cr,Gc])
 | m,.b id,cs,hn,h=>by
  have:=(hn id (.head _)).1;cases m<;>(grind [cr,Gc])
 | m,.w id _ _,cs,hn,h=>by
  have:=(hn id (.head _)).1;cases m<;>(grind [cr,Gc])
 | m,.a t x,cs,_,h=>by cases m<;>exact h
 | m,.z,cs,_,h=>by cases m<;>exact h
 | m,.ns,cs,_,h=>by cases m<;>exact h
 | m,.np,cs,_,h=>by cases m<;>exact h
 | m,.nm,cs,_,h=>by cases m<;>exact h
 | m,.nf,cs,_,h=>by cases m<;>exact h
 | m,.f fn caps,cs,hn,h=>by cases m<;>exact let⟨vs,h1,h2⟩:=h; ⟨vs,h1,Qf1 (fun i hi=>hn i (by grind [Jk])) h2⟩
 | m,.ag l,cs,hn,h=>by cases m<;>exact Qf1 (m:=false) (x:=l) (fun i hi=>hn i (by grind [Jk])) h
 | m,.tp l,cs,hn,h=>by cases m<;>exact let⟨vs,h1,h2⟩:=h; ⟨vs,h1,Qf1 (fun i hi=>hn i (by grind [Jk])) h2⟩
 | m,.nil,cs,_,h=>by cases m<;>exact h
 | true,.cons x r,cs,hn,h=>by
  obtain⟨c1,vs,h1,h2,h3⟩:=h;refine⟨c1,vs,?_,Qf1 (fun i hi=>hn i (by simp[Jk,hi])) h2,Qf1 (fun i hi=>hn i (by simp[Jk,hi])) h3⟩;rw[h1]; cases x<;>rfl
 | false,.cons x r,cs,hn,h=>by
  exact let⟨c1,vs,h1,h2,h3⟩:=h; ⟨c1,vs,h1,Qf1 (fun i hi=>hn i (by simp[Jk,hi])) h2,Qf1 (fun i hi=>hn i (by simp[Jk,hi])) h3⟩
theorem Jz3(g:Nat→Nat)(x:AV)(cs:List Value):(Gc g x).val cs=x.val cs:=by cases x<;>rfl
theorem Q68{g:Nat→Nat}:∀{l:List (Nat×Ob)},(∀i∈Jq l,β' (g i)=β i∧ρ' (g i)=ρ i)→Ha (Qq β ρ l) (Qq β' ρ' (Gm g l))
 | [],_=>.nil
 | (id,o)::l,h=>by
  have h1:=h id (by
   cases o with
   | mapC k v xs hole=>cases hole<;>simp[Jq]
   | _=>simp[Jq])
  refine .cons ?_ (Q68 fun i hi=>h i (by
   cases o with
   | mapC k v xs hole=>cases hole<;>simp[Jq,hi]
   | _=>simp[Jq,hi]))
  cases o with
  | var t c =>
   refine⟨fun b=>by grind [Jb,Qxe,Qr5],fun b o=>by grind [Jb,Qxe,Qr5],fun ok w hp=>?_⟩;obtain⟨cs,hh,hc⟩:=hp;exact⟨cs,by rw[h1.1]; exact hh,Qf1 (fun i hi=>h i (by simp[Jq,hi])) hc⟩
  | row e t xs=>grind [Jb,Qr5,Fx.refl]
  | tail e t xs=>grind [Jb,Qr5,Fx.refl]
  | map k v xs=>grind [Jb,Qr5,Fx.refl]
  | mapC k v xs hole =>
   cases hole with
   | none=>simp_all [Jb,Qr5,Tt,Fx.refl]
   | some q =>
    have h2:=h q.2 (by simp[Jq]);cases v<;>(grind [Jb,Qr5,Tt,Jbf,Fx.refl])
theorem Q3n{l:List (Nat×Ob)}(h:∀i∈Jq l,β' i=β i∧ρ' i=ρ i):Ha (Qq β ρ l) (Qq β' ρ' l):=by
 have:=Q68 (g:=id) (β':=β') (ρ':=ρ') h
 have e:Gm id l=l:=by
  have hav:∀x:AV,Gc id x=x:=by intro x; induction x<;>simp_all [Gc]
  have:∀q:Nat×Ob,(id q.1,Qr5 id q.2)=q:=by intro q; obtain⟨i,o⟩:=q; cases o with
   | mapC k v xs hole=>cases hole<;>simp[Qr5]
   | _=>simp[Qr5,hav]
  simp_all [Gm,List.map_congr_left]
 rw[e]at this;exact this
end
theorem Qea{c t:Nat}(hne:t≠c):∀M:List (Nat×Ob),Qk (Ya M t) c=Qk M c
 | []=>rfl
 | q::l=>by
  simp only[Ya,Qk];cases hb:Nat.beq q.1 t with
  | true =>
   have h1:=Nat.eq_of_beq_eq_true hb;grind [Nat.beq,absurd,Nat.eq_of_beq_eq_true]
  | false =>
   simp only[cond_false,Qk,Qea hne l]
theorem Xj:∀(ids:List Nat) (M:List (Nat×Ob)),((Jv M ids).2++(Jv M ids).1).Perm M
 | [],M=>by simp[Jv]
 | t::ts,M=>by
  simp only[Jv];split
  ·rename_i o ho
   obtain⟨l1,l2,h1,_,h3⟩:=J8 ho;have:=Xj ts (Ya M t);simp only[QD];refine(List.Perm.cons _ this).trans ?_;rw[h3,h1];exact List.perm_middle.symm
  ·exact Xj ts M
theorem Qf2:∀{ids:List Nat} {M:List (Nat×Ob)} {c:Nat} {o:Ob},ids.Nodup→c∈ids→Qk M c=some o→(c,o)∈(Jv M ids).2
 | t::ts,M,c,o,hn,hc,ho=>by
  have hn':=JJ.1 hn;simp only[Jv];rcases QX.1 hc with rfl | hc
  ·rw[ho]; exact .head _
  ·have hne:t≠c:=fun e=>hn'.1 (e▸hc)
   split
   ·exact .tail _ (Qf2 hn'.2 hc (by rw[Qea hne]; exact ho))
   ·exact Qf2 hn'.2 hc ho
theorem Qf3:∀{ids:List Nat} {M:List (Nat×Ob)},ids.Nodup→∀q∈(Jv M ids).2,q.1∈ids∧Qk M q.1=some q.2
 | [],M,_,q,hq=>by simp[Jv]at hq
 | t::ts,M,hn,q,hq=>by
  have hn':=JJ.1 hn;simp only[Jv]at hq;split at hq
  ·rename_i o ho
   rcases QX.1 hq with rfl | hq
   ·grind
   ·obtain⟨h1,h2⟩:=Qf3 hn'.2 q hq
    grind [Qea]
  ·obtain⟨h1,h2⟩:=Qf3 hn'.2 q hq
   grind
theorem Qsc:∀{Γe:List (Nat×Sk)} {l:List DV},∀e∈(Rk Γe l).1,e.cs=[]
 | [],l,e,he=>by simp[Rk]at he
 | (t,s)::g,l,e,he=>by
  simp only[Rk]at he;rcases QX.1 he with rfl | he
  ·rfl
  ·exact Qsc e he
theorem Qb1{ri:List (Nat×Nat)}:∀{Γm:List (Nat×SkO)} {id c:Nat},id∈Γm.map Prod.fst→Jy ri id=some c→c∈Yl ri Γm
 | (k,s)::l,id,c,h,hc=>by
  simp only[Yl];rcases QX.1 h with e | h
  ·grind
  ·split
   ·exact .tail _ (Qb1 h hc)
   ·exact Qb1 h hc
theorem Dl{ri:List (Nat×Nat)}:∀{Γm:List (Nat×SkO)} {c:Nat},c∈Yl ri Γm→∃id∈Γm.map Prod.fst,Jy ri id=some c
 | (k,s)::l,c,h=>by
  simp only[Yl]at h;split at h
  ·rename_i x hx
   rcases QX.1 h with rfl | h
   ·grind
   ·obtain⟨id,h1,h2⟩:=Dl h; grind
  ·obtain⟨id,h1,h2⟩:=Dl h; grind
theorem Oz{ri:List (Nat×Nat)}:∀{Γm:List (Nat×SkO)} {cs:List Nat},Ij ri Γm cs=true→(Yl ri Γm).Nodup∧∀c∈Yl ri Γm,c∉cs
 | [],_,_=>⟨.nil,by simp[Yl]⟩
 | (id,s)::l,cs,h=>by
  simp only[Ij]at h;simp only[Yl];split at h
  ·rename_i c hc
   simp only[QQ]at h;obtain⟨h1,h2⟩:=Oz h.2;refine⟨JJ.2 ⟨fun hm=>h2 c hm (.head _),h1⟩,fun x hx=>?_⟩;rcases QX.1 hx with rfl | hx
   ·grind [Wb]
   grind
  ·exact Oz h
theorem Ty.cast_self(t:Ty)(x:t.De):Ty.cast t t x=some x:=by
 simp[Ty.cast,dif_pos,Ty.beq_refl]
theorem Qeb{M:List (Nat×Ob)}{ri:List (Nat×Nat)}{pr:List Nat}{g:Nat→Nat}(hg:∀i c,Jy ri i=some c→g i=c):∀{sk:Sk} {x:AV} {l:List DV} (rest:List DV),Zi M ri pr sk x=some l→∃y,Tx sk (l++rest)=(y,rest)∧(Qn3 sk x=true→Gc g y=x)
 | .d t,x,l,rest,h=>by
  simp only[Zi]at h;split at h
  ·rename_i z0 hz
   obtain⟨_,h⟩:=bvT h;simp only[Option.some.injEq]at h;subst h;refine⟨.d t z0,rfl,fun hs=>?_⟩;cases x<;>first | (cases hs; done) | skip
   rename_i t' x';simp only[asD]at hz;obtain⟨e,h2⟩:=Ty.cast_ok hz;subst e; subst h2;rfl
  ·cases h
 | .p id path,x,l,rest,h=>by
  cases x<;>simp only[Zi]at h<;>first | (cases h; done) | skip
  rename_i c path';obtain⟨hb,h⟩:=bvT h;simp only[QQ]at hb;simp only[Option.some.injEq]at h;subst h;exact⟨.p id path,rfl,fun _=>by simp only[Gc]; rw[hg _ _ (Qlx hb.1),Qr8 hb.2]⟩
 | .s id,x,l,rest,h=>by
  cases x<;>simp only[Zi]at h<;>first | (cases h; done) | skip
  ·rename_i c
   obtain⟨hb,h⟩:=bvT h;simp only[QQ]at hb;simp only[Option.some.injEq]at h;subst h;exact⟨.s id,rfl,fun _=>by simp only[Gc]; rw[hg _ _ (Qlx hb.1)]⟩
  ·obtain⟨hb,h⟩:=bvT h
   simp only[Option.some.injEq]at h;subst h;exact⟨.s id,rfl,fun hs=>by cases hs⟩
 | .m id,x,l,rest,h=>by
  cases x<;>simp only[Zi]at h<;>first | (cases h; done) | skip
  rename_i c;obtain⟨hb,h⟩:=bvT h;simp only[Option.some.injEq]at h;subst h;exact⟨.m id,rfl,fun _=>by simp only[Gc]; rw[hg _ _ (Qlx hb)]⟩
 | .ns,x,l,rest,h=>by
  cases x<;>simp only[Zi]at h<;>first | (cases h; done) | skip
  simp only[Option.some.injEq]at h; subst h; exact⟨_,rfl,fun _=>rfl⟩
 | .np,x,l,rest,h=>by
  cases x<;>simp only[Zi]at h<;>first | (cases h; done) | skip
  simp only[Option.some.injEq]at h; subst h; exact⟨_,rfl,fun _=>rfl⟩
 | .nm,x,l,rest,h=>by
  cases x<;>simp only[Zi]at h<;>first | (cases h; done) | skip
  simp only[Option.some.injEq]at h; subst h; exact⟨_,rfl,fun _=>rfl⟩
 | .nf,x,l,rest,h=>by
  cases x<;>simp only[Zi]at h<;>first | (cases h; done) | skip
  simp only[Option.some.injEq]at h; subst h; exact⟨_,rfl,fun _=>rfl⟩
 | .z,x,l,rest,h=>by
  cases x<;>simp only[Zi]at h<;>first | (cases h; done) | skip
  simp only[Option.some.injEq]at h; subst h; exact⟨_,rfl,fun _=>rfl⟩
 | .nil,x,l,rest,h=>by
  cases x<;>simp only[Zi]at h<;>first | (cases h; done) | skip
  simp only[Option.some.injEq]at h; subst h; exact⟨_,rfl,fun _=>rfl⟩
 | .f fn c,x,l,rest,h=>by
  cases x<;>simp only[Zi]at h<;>first | (cases h; done) | skip
  rename_i fn' x';obtain⟨hb,h⟩:=bvT h;simp only[QQ]at hb;obtain⟨y,h1,h2⟩:=Qeb hg rest h;refine⟨.f fn y,by grind [Tx],fun hs=>?_⟩;simp only[Gc];rw[h2 hs,Nat.eq_of_beq_eq_true hb.1]
 | .ag l',x,l,rest,h=>by
  simp only[Zi]at h;split at h
  ·rename_i y hy
   obtain⟨z0,h1,h2⟩:=Qeb hg rest h;refine⟨.ag z0,by grind [Tx],fun hs=>?_⟩;cases x<;>first | (cases hs; done) | skip
   simp only[Qfv,Option.some.injEq]at hy;subst hy;simp only[Gc];rw[h2 hs]
  ·cases h
 | .cons a b,x,l,rest,h=>by
  cases x<;>simp only[Zi]at h<;>first | (cases h; done) | skip
  split at h
  ·rename_i u v hu hv
   simp only[Option.some.injEq]at h;subst h;obtain⟨y1,p1,p2⟩:=Qeb hg (v++rest) hu;obtain⟨y2,q1,q2⟩:=Qeb hg rest hv;simp_all [Tx,List.append_assoc,Qn3,QQ,Gc]
  ·cases h
theorem Juf{M:List (Nat×Ob)}{ri:List (Nat×Nat)}{pr:List Nat}{g:Nat→Nat}(hg:∀i c,Jy ri i=some c→g i=c){s:SkO}{o:Option Ob}{l:List DV}(rest:List DV)(h:Qd6 M ri pr s o=some l):∃ob',Qjd s (l++rest)=some (ob',rest)∧∀ob,o=some ob→J1s s ob=true→Qr5 g ob'=ob:=by
 have cs:∀{t:Ty} {x:t.De},Ty.cast t t x=some x:=fun {t x}=>Ty.cast_self t x;cases s with
 | var tid c =>
  cases o with
  | none=>cases h
  | some ob =>
   cases ob<;>simp only[Qd6]at h<;>first | (cases h; done) | skip
   obtain⟨hb,h'⟩:=bvT h;obtain⟨y,h1,h2⟩:=Qeb hg rest h';refine⟨.var tid y,by grind [Qjd],fun ob he hs=>?_⟩;injection he with he; subst he
   simp only[Qr5];rw[h2 hs,Nat.eq_of_beq_eq_true hb]
 | row e t =>
  cases o with
  | none =>
   simp only[Qd6,Option.some.injEq]at h;subst h;simp_all [Qjd,QD,QE]
  | some ob =>
   cases ob<;>simp only[Qd6]at h<;>first | (cases h; done) | skip
   rename_i e' t' xs;obtain⟨hb,h'⟩:=bvT h;simp only[QQ]at hb;have e1:=Nat.eq_of_beq_eq_true hb.1;have e2:=Ty.beq_eq hb.2;clear h hb;subst e1; subst e2;injection h' with h'
   subst h';refine⟨.row e t xs,by grind [Qjd],fun ob he hs=>?_⟩;injection he
 | tail e t =>
  cases o with
  | none =>
   simp only[Qd6,Option.some.injEq]at h;subst h;simp_all [Qjd,QD,QE]
  | some ob =>
   cases ob<;>simp only[Qd6]at h<;>first | (cases h; done) | skip
   rename_i e' t' xs;obtain⟨hb,h'⟩:=bvT h;simp only[QQ]at hb;have e1:=Nat.eq_of_beq_eq_true hb.1;have e2:=Ty.beq_eq hb.2;clear h hb;subst e1; subst e2;injection h' with h'
   subst h';refine⟨.tail e t xs,by grind [Qjd],fun ob he hs=>?_⟩;injection he
 | map k u =>
  cases o with
  | none=>cases h
  | some ob =>
   cases ob<;>simp only[Qd6]at h<;>first | (cases h; done) | skip
   rename_i k' u' xs;obtain⟨hb,h'⟩:=bvT h;simp only[QQ]at hb;have e1:=Ty.beq_eq hb.1;have e2:=Ty.beq_eq hb.2;clear h hb;subst e1; subst e2;injection h' with h'
   subst h';refine⟨.map k u xs,by grind [Qjd],fun ob he hs=>?_⟩;injection he
 | mapC k u =>
  cases o with
  | none=>cases h
  | some ob =>
   cases ob<;>simp only[Qd6]at h<;>first | (cases h; done) | skip
   rename_i k' u' xs hole;obtain⟨hb,h'⟩:=bvT h;simp only[QQ]at hb;have e1:=Ty.beq_eq hb.1.1;have e2:=CK.beq_eq hb.1.2;clear h;subst e1; subst e2;injection h' with h'
   subst h';exact⟨.mapC k u xs none,by grind [Qjd],fun ob he hs=>by cases ob<;>cases hs⟩
theorem Jce{ro:List Nat}{id:Nat}{s:SkO}{G:List (Nat×SkO)}:rdG ro ((id,s)::G)=bif Yr ro id then(id,s)::rdG ro G else rdG ro G:=by
 grind [rdG,Yr,id]
theorem Jug{ro:List Nat}{id:Nat}{s:Ob}{G:List (Nat×Ob)}:rdM ro ((id,s)::G)=bif Yr ro id then(id,s)::rdM ro G else rdM ro G:=by
 grind [rdM,Yr,id]
theorem Q3o{id:Nat}{ob:Ob}:Xh id (some ob)=some (id,ob):=rfl
theorem Q69{M:List (Nat×Ob)}{ri:List (Nat×Nat)}{pr ro:List Nat}{g:Nat→Nat}(hg:∀i c,Jy ri i=some c→g i=c):∀{Γm:List (Nat×SkO)} {l:List DV},Qcr M [] ri pr Γm=some l→Q27 ri M (rdG ro Γm)=true →
  Gm g (rdM ro (Xw Γm l))=(Yl ri (rdG ro Γm)).filterMap fun t=>Xh t (Qk M t)
 | [],l,h,hs=>by simp only[Qcr,Option.some.injEq]at h; subst h; rfl
 | (id,s)::G,l,h,hs=>by
  simp only[Qcr]at h;split at h
  ·rename_i o ho
   split at h
   ·rename_i u v hu hv
    simp only[Option.some.injEq]at h;subst h;obtain⟨ob',h1,h2⟩:=Juf hg v hu;simp only[Xw,h1];rw[Jug,Jce];rw[Jce]at hs;cases hm:Yr ro id with
    | false =>
     rw[hm]at hs;exact Q69 hg hv hs
    | true =>
     rw[hm]at hs;simp only[cond_true,Q27,QQ]at hs ⊢;obtain⟨hs1,hs2⟩:=hs;split at hs1
     ·rename_i c hc
      split at hs1
      ·rename_i ob hob
       have ho':o=some ob:=by
        grind [Jk7,Option.some.injEq]
       have ih:=Q69 hg hv hs2;grind [Gm,Yl,Q3o]
      ·cases hs1
     ·cases hs1
   ·cases h
  ·cases h
theorem Qf4{c:Nat}:∀{ts:List Nat} {M:List (Nat×Ob)},c∉ts→Qk (Jv M ts).1 c=Qk M c
 | [],M,_=>rfl
 | t::ts,M,h=>by
  have h1:t≠c:=fun e=>h (e▸.head _);have h2:c∉ts:=fun hm=>h (.tail _ hm);simp only[Jv];split
  ·rw[Qf4 h2,Qea h1]
  ·exact Qf4 h2
theorem J6a{α β:Type}{f g:α→Option β}:∀{l:List α},(∀x∈l,f x=g x)→l.filterMap f=l.filterMap g
 | [],_=>rfl
 | x::l,h=>by
  simp only[JB];rw[h x (.head _),J6a fun y hy=>h y (.tail _ hy)]
theorem Qcw:∀{ids:List Nat} {M:List (Nat×Ob)},ids.Nodup→(Jv M ids).2=ids.filterMap fun t=>Xh t (Qk M t)
 | [],M,_=>rfl
 | t::ts,M,hn=>by
  have hn':=JJ.1 hn;simp only[Jv];split
  ·rename_i o ho
   simp only[JB,ho,Q3o];rw[Qcw hn'.2];refine congrArg _ (J6a fun x hx=>?_);rw[Qea (c:=x) (t:=t) fun e=>hn'.1 (by rw[e]; exact hx)]
  ·rename_i ho
   simp only[JB,ho,Xh];exact Qcw hn'.2
theorem Qji{ri:List (Nat×Nat)}:∀{l:List (Nat×SkO)} {cs cs':List Nat},(∀x∈cs',x∈cs)→Ij ri l cs=true→Ij ri l cs'=true
 | [],cs,cs',_,_=>rfl
 | (id,s)::l,cs,cs',hc,h=>by
  simp only[Ij]at h ⊢;split at h
  ·rename_i c hcc
   simp only[QQ]at h ⊢;refine⟨?_,Qji (fun x hx=>?_) h.2⟩
   ·grind [Yr,Wb]
   grind
  ·exact Qji hc h
theorem Hi{ri:List (Nat×Nat)}{p:Nat×SkO→Bool}:∀{l:List (Nat×SkO)} {cs:List Nat},Ij ri l cs=true→Ij ri (l.filter p) cs=true
 | [],cs,_=>rfl
 | (id,s)::l,cs,h=>by
  simp only[Ij]at h;cases hp:p (id,s)with
  | true =>
   rw[XL,if_pos hp];simp only[Ij];split at h
   ·rename_i c hcc
    simp only[QQ]at h ⊢;exact⟨h.1,Hi h.2⟩
   ·exact Hi h
  | false =>
   rw[XL,if_neg (by rw[hp]; simp)];split at h
   ·simp only[QQ]at h
    exact Hi (Qji (fun x hx=>.tail _ hx) h.2)
   ·exact Hi h
theorem Qyd:∀{l:List (Nat×Ob)} {i:Nat},i∈Jq l↔∃q∈l,i∈Jq [q]
 | [],i=>by simp[Jq]
 | q::l,i=>by
  have ih:=Qyd (l:=l) (i:=i)
  have h:Jq (q::l)=Jq [q]++Jq l:=by
   obtain⟨k,o⟩:=q;cases o with
   | mapC k1 v xs hole=>cases hole<;>simp[Jq]
   | _=>simp[Jq]
  rw[h,QZ,ih];grind
theorem Jpx{l m:List (Nat×Ob)}(h:∀q∈l,q∈m){i:Nat}(hi:i∈Jq l):i∈Jq m:=let⟨q,h1,h2⟩:=Qyd.1 hi; Qyd.2 ⟨q,h q h1,h2⟩
theorem Jpy{l m:List Nat}(h:Em l m=true){i:Nat}(hi:i∈m):i∈l:=by
 induction m with
 | nil=>cases hi
 | cons x m ih =>
  simp only[Em,QQ]at h;rcases QX.1 hi with rfl | hi
  ·exact Wb.1 h.1
  ·exact ih h.2 hi
theorem J74{M:List (Nat×Ob)}{c:Nat}(h:c∈V7 M):∃ob,Qk M c=some ob:=by
 induction M with
 | nil=>cases h
 | cons q l ih =>
  simp only[Qk];cases hb:Nat.beq q.1 c with
  | true=>exact⟨_,rfl⟩
  | false =>
   simp only[cond_false];refine ih ?_;rcases QX.1 h with e | h
   ·rw[e,Nat.beq_refl]at hb; cases hb
   ·exact h
theorem Qye{l m:List (Nat×Ob)}{c:Nat}(h:Qk l c=none):Qk (l++m) c=Qk m c:=by
 induction l with
 | nil=>rfl
 | cons q l ih =>
  grind [Qk,Nat.beq]
theorem Qqb{ks:List Nat}:∀{M:List (Nat×Ob)},V7 (Ud ks M)=V7 M
 | []=>rfl
 | (id,o)::l=>by
  cases o<;>simp only[Ud,V7,JQ]<;>rw[show(Ud ks l).map Prod.fst=l.map Prod.fst from Qqb];cases(Yr ks id&&Nat.ble 1 _)<;>rfl
theorem Q3p{ri:List (Nat×Nat)}{M:List (Nat×Ob)}:∀{l:List (Nat×SkO)},Q27 ri M l=true→∀id∈l.map Prod.fst,∃cc,Jy ri id=some cc
 | (i,s)::l,h,id,hid=>by
  simp only[Q27,QQ]at h;rcases QX.1 hid with e | hid
  ·grind
  ·exact Q3p h.2 id hid
def Jcf(β:Nat→Nat)(ρ:Nat→Value):Nat×Ob→List Nat
 | (id,.var _ _)=>[β id]
 | (id,.map _ _ _)=>[β id]
 | (id,.mapC _ _ _ _)=>β id::(Qfs (ρ id)).flatMap fun v=>(Wa v).toList
 | (id,_)=>J5s (ρ id)
theorem Juh{β:Nat→Nat}{ρ:Nat→Value}{q:Nat×Ob}{g:Nat}:g∈Jcf β ρ q↔(Jb β ρ q.1 q.2).blks g:=by
 obtain⟨id,o⟩:=q;cases o with
 | var t c=>simp[Jcf,Jb,Qxe]
 | row e t xs=>simp[Jcf,Jbb,Jb,ml]
 | tail e t xs=>simp[Jcf,Jbb,Jb,Qi5]
 | map k v xs=>simp[Jcf,Jb,Qpp]
 | mapC k v xs hole=>simp only[Jcf,Jb,Jtc,QX,List.mem_flatMap,Option.mem_toList,Option.mem_def]
def Qwf:Ob→Bool
 | .tail _ _ _=>true
 | _=>false
theorem Jcg{β:Nat→Nat}{ρ:Nat→Value}{id:Nat}{o:Ob}(h:Qwf o=false){b:Nat}(f:Nat)(hb:(Jb β ρ id o).blks b):(Jb β ρ id o).cov b f:=by
 cases o with
 | tail e t xs=>cases h
 | var t c=>exact hb
 | row e t xs=>exact hb
 | map k v xs=>exact hb
 | mapC k v xs hole=>exact hb
theorem Qt6{M F:List (Nat×Ob)}{ri:List (Nat×Nat)}{pr:List Nat}:∀{Γm:List (Nat×SkO)} {l:List DV},Qr6 Γm=true→Qcr M F ri pr Γm=some l→∀q∈Γm,∀c ob,Jy ri q.1=some c→Qk M c=some ob→Qwf ob=false
 | (id,s)::g,l,hn,h,q,hq,c,ob,hc,hob=>by
  simp only[Qcr]at h;split at h
  ·rename_i o ho
   split at h
   ·rename_i u v hu hv
    have hn':Qr6 g=true:=by cases s<;>simp_all [Qr6]
    rcases QX.1 hq with rfl | hq
    ·simp only[Jk7,hc,hob]at ho
     simp at ho; subst ho;cases s<;>cases ob<;>simp_all [Qd6,Qr6,Qwf]
    ·exact Qt6 hn' hv q hq c ob hc hob
   ·cases h
  ·cases h
section
variable {P:Program} {Y:TX} {X:Cx} {S:XS} {β β':Nat→Nat} {ρ ρ':Nat→Value} {a a':Act} {w w':World} {n:Nat}
variable {ops:Array Oper} {Q:Exit→Act→World→Prop} {rest:List Oper} {R:Type} {k:XS→Option R} {r:R}
theorem Jlj(h:Rel X β ρ S.flat a w):∀{xs:List Operand} {i:Nat} {es:List En} (pre:List Value),pre.length=i→Jbw S xs i=some es →
  es.length=xs.length∧∀e∈es,(enD β ρ ⟨(pre++xs.map a.eval).toArray,[]⟩ e).p (okR X β ρ S.flat.mem w) w
 | [],i,es,pre,_,he=>by simp[Jbw]at he; subst he; exact⟨rfl,by simp⟩
 | x::xs,i,es,pre,hi,he=>by
  simp only[Jbw]at he;split at he
  ·rename_i v r hv hr
   obtain⟨hbi,he⟩:=bvT he;simp at he; subst he;obtain⟨cs,h1,h2⟩:=h.ev (Qi a) hv;obtain⟨h3,h4⟩:=Jlj h (xs:=xs) (i:=i+1) (pre++[a.eval x]) (by simp[hi]) hr;refine⟨by simp[h3],fun e hm=>?_⟩;have hl:pre++[a.eval x]++xs.map a.eval=pre++(x::xs).map a.eval:=by simp
   rw[hl]at h4;rcases QX.1 hm with rfl | hm
   ·refine⟨fun _=>⟨cs,?_,h2⟩,.inl (Qi _)⟩
    rw[Qbx hbi];grind
   ·exact h4 e hm
  ·cases he
theorem Jlk{S:XS}:∀{xs:List Operand} {i:Nat} {es:List En},Jbw S xs i=some es→∀e∈es,e.cs=[]
 | [],i,es,he=>by grind [Jbw]
 | x::xs,i,es,he=>by
  simp only[Jbw]at he;split at he
  ·rename_i v r hv hr
   obtain⟨_,he⟩:=bvT he;simp at he; subst he;intro e hm;rcases QX.1 hm with rfl | hm
   ·rfl
   ·exact Jlk hr e hm
  ·cases he
theorem Jll{ok:Ok}{w:World}:∀{x:AV} {i:Nat} {cs:List En} {vs:List Value} (pre:List Value),pre.length=i→Jtr x i=some cs→cr β ρ ok w true x vs →
  cs.length=vs.length∧(∀e∈cs,e.cs=[])∧∀e∈cs,(enD β ρ ⟨(pre++vs).toArray,[]⟩ e).p ok w
 | .nil,i,cs,vs,pre,_,he,h=>by
  simp[Jtr]at he; subst he;have:vs=[]:=h;grind
 | .cons y r,i,cs,vs,pre,hi,he,h=>by
  simp only[Jtr]at he;split at he
  ·rename_i l hl
   obtain⟨hbi,he⟩:=bvT he;simp at he; subst he;obtain⟨c1,vs',rfl,h1,h2⟩:=h;obtain⟨h3,h4,h5⟩:=Jll (pre++[y.val c1]) (by simp[hi]) hl h2;refine⟨by simp[h3],fun e hm=>?_,fun e hm=>?_⟩
   ·grind
   ·rcases QX.1 hm with rfl | hm
    ·refine⟨fun _=>⟨c1,?_,h1⟩,.inl (Qi _)⟩
     rw[Qbx hbi];grind
    grind
  ·cases he
theorem J6b{ok:Ok}{w:World}{l post:List Value}{e:En}(hc:e.cs=[])(h:(enD β ρ ⟨l.toArray,[]⟩ e).p ok w):(enD β ρ ⟨(l++post).toArray,[]⟩ e).p ok w:=by
 obtain⟨cs,h1,h2⟩:=h.1 (by rw[hc]; exact Qi _);refine⟨fun _=>⟨cs,?_,h2⟩,.inl (by rw[hc]; exact Qi _)⟩;unfold rd at h1 ⊢;grind
theorem Jch{ri:List (Nat×Nat)}{d:Nat}{Γk:List Nat}{S:XS}{M:List (Nat×Ob)}:∀{l:List Nat},Jla ri d Γk S M l=true→∀j∈l,(∃c,Jy ri j=some c∧Js ri d j=c∧j∈Γk) ∨
  (Jy ri j=none∧Yo (Js ri d j) M=true∧Yo (Js ri d j) S.fixM=true∧Qp2 (Js ri d j) S.fix=true∧Qp2 (Js ri d j) S.env=true∧Yr S.prot (Js ri d j)=false∧j∉Γk)
 | i::l,h,j,hj=>by
  simp only[Jla,QQ]at h;rcases QX.1 hj with rfl | hj
  ·have h1:=h.1
   cases hl:Jy ri j with
   | some c =>
    rw[hl]at h1;simp only[B6,cond_true]at h1;exact .inl ⟨c,rfl,by simp only[Js,hl],Wb.1 h1⟩
   | none =>
    rw[hl]at h1;simp only[B6,cond_false,QQ]at h1;obtain⟨⟨⟨⟨⟨a1,a2⟩,a3⟩,a4⟩,a5⟩,a6⟩:=h1;refine .inr ⟨rfl,a1,a2,a3,a4,by simpa using a5,fun hm=>?_⟩;rw[Wb.2 hm]at a6; cases a6
  ·exact Jch h.2 j hj
theorem Dm{ks:List Nat}:∀{l:List Nat},Em ks l=true→∀i∈l,i∈ks
 | x::l,h,i,hi=>by
  simp only[Em,QQ]at h;rcases QX.1 hi with rfl | hi
  ·exact Wb.1 h.1
  ·exact Dm h.2 i hi
theorem Qec:∀{l:List Nat},Tz l=true→l.Nodup
 | [],_=>.nil
 | x::l,h=>by
  simp only[Tz,QQ]at h;refine JJ.2 ⟨fun hm=>?_,Qec h.2⟩;have:=h.1;rw[Wb.2 hm]at this; cases this
def backB(g:Nat→Nat)(ks:List Nat)(β2 β:Nat→Nat):Nat→Nat:=fun i=>match ks.find? fun j=>g j==i with
 | some j=>β2 j
 | none=>β i
def T5(g:Nat→Nat)(ks:List Nat)(ρ2 ρ:Nat→Value):Nat→Value:=fun i=>match ks.find? fun j=>g j==i with
 | some j=>ρ2 j
 | none=>ρ i
theorem Jci{g:Nat→Nat}:∀{ks:List Nat},(ks.map g).Nodup→∀j∈ks,(ks.find? fun i=>g i==g j)=some j
 | x::l,hn,j,hj=>by
  have hn':=JJ.1 (by simpa using hn:(g x::l.map g).Nodup);rcases QX.1 hj with rfl | hj
  ·simp
  ·have hne:g x≠g j:=fun e=>hn'.1 (by rw[e]; grind)
   have:(g x==g j)=false:=by simpa using hne
   simp only[List.find?_cons,this];exact Jci hn'.2 j hj
theorem Jcj{l:List En}{e:En}(he:e∈l){i:Nat}(hi:i∈Jk e.av):i∈Qcs l:=by
 induction l with
 | nil=>cases he
 | cons x l ih =>
  simp only[Qcs,QZ];grind
theorem T6{d:Nat}:∀{x:AV},Km d x=true→d∉Jk x
 | .p id _,h=>by grind [id,Jk,Km,Nat.beq_refl]
 | .e id _,h=>by grind [id,Jk,Km,Nat.beq_refl]
 | .s id,h=>by grind [id,Jk,Km,Nat.beq_refl]
 | .m id,h=>by grind [id,Jk,Km,Nat.beq_refl]
 | .b id,h=>by grind [id,Jk,Km,Nat.beq_refl]
 | .w id _ _,h=>by grind [id,Jk,Km,Nat.beq_refl]
 | .f _ c,h=>by simp only[Km]at h; simpa[Jk]using T6 h
 | .ag l,h=>by simp only[Km]at h; simpa[Jk]using T6 h
 | .tp l,h=>by simp only[Km]at h; simpa[Jk]using T6 h
 | .cons x r,h=>by
  simp only[Km,QQ]at h;simp only[Jk,QZ,not_or];exact⟨T6 h.1,T6 h.2⟩
 | .d _ _,_=>by simp[Jk]
 | .a _ _,_=>by simp[Jk]
 | .z,_=>by simp[Jk]
 | .ns,_=>by simp[Jk]
 | .np,_=>by simp[Jk]
 | .nm,_=>by simp[Jk]
 | .nf,_=>by simp[Jk]
 | .nil,_=>by simp[Jk]
theorem Qyf{d:Nat}:∀{M:List (Nat×Ob)},Yo d M=true→d∉Jq M
 | [],_=>by simp[Jq]
 | (k,o)::l,h=>by
  have hq:=N3 h (k,o) (.head _)
  have hl:Yo d l=true:=by
   cases o with
   | mapC k1 v xs hole=>cases hole<;>simp only[Yo,QQ]at h<;>exact h.2
   | _=>simp_all [Yo,QQ]
  have ih:=Qyf hl;cases o with
  | var t c =>
   have:=T6 hq.2;simp only[Jq,QX,QZ,not_or];grind
  | mapC k1 v xs hole =>
   cases hole with
   | none =>
    simp only[Jq,QX,not_or];grind
   | some q =>
    simp only[Jq,QX,not_or];exact⟨fun e=>hq.1 e.symm,fun e=>hq.2 e.symm,ih⟩
  | _ =>
   simp only[Jq,QX,not_or];grind
theorem Jck{β:Nat→Nat}{ρ:Nat→Value}{ok:Ok}{w:World}:∀{es:List En} {vs:List Value} {i:Nat},(∀(j:Nat) e,es[j]?=some e→∃cs,vs[j]?=some (e.av.val cs)∧cr β ρ ok w false e.av cs)→vs.length=es.length→cr β ρ ok w true (Q28 es) vs
 | [],vs,i,_,hl=>QF (by simpa using hl)
 | e::es,[],i,_,hl=>by simp at hl
 | e::es,v::vs,i,h,hl=>by
  obtain⟨cs,h1,h2⟩:=h 0 e rfl;have h1':v=e.av.val cs:=by simpa using h1
  exact⟨cs,vs,by rw[h1'],h2,Jck (i:=i) (fun j e' he=>by simpa using h (j+1) e' (by simpa using he)) (by simpa using hl)⟩
theorem Qyg:∀(es:List En),Jk (Q28 es)=Qcs es
 | []=>rfl
 | e::es=>by simp only[Q28,Jk,Qcs,Qyg es]
theorem Jpz(es:List En):∀i∈Jk (Qd7 es),i∈Qcs es:=by
 intro i hi;unfold Qd7 at hi;grind [Qcs,Jk,Qyg]
theorem Qt7(hX:X.n=n)(hr:X.res=[])(h:Rel X β ρ S.flat a w){o:Oper}(hw:Region.wanted o (yielded ops a.tmps)=true){c:Con}(hc:Qne P Y.gl c)(hG:Zj Y.gl (okN X) X.w)(hrun:Runs P c.f)(hs:Xg n c o S k=some r)(H:KOk P ops Q rest X S β ρ k r) :
  wpList P ops Q (o::rest) a w:=by
 unfold Xg at hs;split at hs
 ·rename_i x0 xs ts d hop hd
  split at hs
  ·rename_i f caps hx0
   have hb:=(bvT hs).1;replace hs:=(bvT hs).2;simp only[QQ]at hb;have hf:=Nat.eq_of_beq_eq_true hb.1;obtain⟨hd1,hd2⟩:=Ue hb.2 hX hr;split at hs
   ·rename_i es0 cs0 hes0 hcs0
    obtain⟨cf,hf1,vc,hf2,hf3⟩:=h.ev (Qi a) hx0;subst hf2;replace hf1:a.eval x0=.func (.func f) #[] vc.toArray:=hf1;obtain⟨el0,hE00⟩:=Jlj h [] rfl hes0;simp only[QE]at hE00;obtain⟨el1,_,hE01⟩:=Jll (xs.map a.eval) (by simp) hcs0 hf3;have el:(es0++cs0).length=(xs.map a.eval++vc).length:=by simp[el0,el1]
    have hE0:∀e∈es0++cs0,(enD β ρ ⟨(xs.map a.eval++vc).toArray,[]⟩ e).p (okR X β ρ S.flat.mem w) w:=by
     grind [J6b,Jlk]
    generalize es0++cs0=es at *;generalize hri:J1r c.Γ ⟨es,S.mem++S.fixM⟩=ri at hs;unfold Xg.callE at hs;split at hs
    ·rename_i x hx
     have hb2:=(bvT hs).1;replace hs:=(bvT hs).2;simp only[QQ]at hb2;obtain⟨⟨⟨hb2n,hb2l⟩,hb2m⟩,hb2s⟩:=hb2;have hlen:=Nat.eq_of_beq_eq_true hb2l;obtain⟨y,hy,hs⟩:=Y0 hs;rw[Qwe]at hs;unfold Xg.callR at hs;have hb3:=(bvT hs).1;replace hs:=(bvT hs).2;simp only[QQ]at hb3;obtain⟨⟨⟨n1,n2⟩,n3⟩,n4⟩:=hb3
     have h1:Rel X β ρ ⟨S.env++S.fix,frz c.Γ ri es S.mem++S.fixM⟩ a w:=by
      have:=Rel.freeze S.mem (l0:=[]) (F:=S.fixM) (ks:=Jto es c.Γ.env++Q6x S.mem ri c.Γ.mem) h;simp only[QE]at this;exact this
     have hM:∀id o,Qk ((frz c.Γ ri es S.mem++S.fixM)++[]) id=some o→(Jb β ρ id o).p (okR X β ρ (frz c.Γ ri es S.mem++S.fixM) w) w:=fun id o ho=>h1.mm id o (by rw[QH]at ho; exact ho);unfold Jzr at hx;obtain⟨hbx,hx⟩:=bvT hx;simp only[QQ]at hbx;obtain⟨⟨⟨b1,b2⟩,b3⟩,b4⟩:=hbx;split at hx
     ·rename_i u v hu hv
      have hxl:=Q63 hx
      have hokk:∀b f,okR X β ρ S.flat.mem w b f→okR X β ρ (frz c.Γ ri es S.mem++S.fixM) w b f:=by
       rintro b f ⟨o1,o2,o3,o4⟩;refine⟨o1,o2,o3,fun t' ht' hcv=>?_⟩;obtain⟨q,hq,rfl⟩:=QK.1 ht'
       have key:∀{l:List (Nat×Ob)} {ks:List Nat} {q:Nat×Ob},q∈Ud ks l→∃o',(q.1,o')∈l∧∀b f,(Jb β ρ q.1 q.2).cov b f→(Jb β ρ q.1 o').cov b f:=by
        intro l
        induction l with
        | nil=>intro ks q hq; cases hq
        | cons p l ih =>
         intro ks q hq;obtain⟨id,ob⟩:=p;have other:q∈Ud ks l→∃o',(q.1,o')∈(id,ob)::l∧∀b f,(Jb β ρ q.1 q.2).cov b f→(Jb β ρ q.1 o').cov b f:=fun hq=>let⟨o',p1,p2⟩:=ih hq; ⟨o',.tail _ p1,p2⟩
         cases ob with
         | row e t xs =>
          simp only[Ud]at hq;rcases QX.1 hq with e' | hq
          ·cases hbb:(Yr ks id&&Nat.ble 1 t.size)with
           | true =>
            rw[hbb]at e'; subst e';exact⟨.row e t xs,.head _,fun b f hcv=>hcv.1⟩
           | false =>
            rw[hbb]at e'; grind
          ·exact other hq
         | var t' c' =>
          grind [Ud]
         | tail e t xs =>
          grind [Ud]
         | map k' v' xs =>
          grind [Ud]
         | mapC k' v' xs hole =>
          grind [Ud]
       rcases QZ.1 hq with hq | hq
       ·obtain⟨o',p1,p2⟩:=key hq
        exact o4 _ (QK.2 ⟨(q.1,o'),List.mem_append_left _ p1,rfl⟩) (p2 b f hcv)
       ·exact o4 _ (QK.2 ⟨q,List.mem_append_right _ hq,rfl⟩) hcv
      obtain⟨es',e1,e2⟩:=Qr9 hM (fun e he=>(enD β ρ _ e).weak (hE0 e he) hokk) v hu;obtain⟨m1,m2⟩:=Qsa hM b3 hv;have henc:enc c.Γ x=⟨es',Xw c.Γ.mem v⟩:=by grind [enc]
      have hkind:=Qt6 hb2n hv;obtain⟨ln1,_⟩:=Oz (Hi (p:=fun q=>!Yr c.ro q.1) b1);obtain⟨ln2,_⟩:=Oz (Hi (p:=fun q=>Yr c.ro q.1) b1);have hroS:=Q69 (g:=Js ri d) (ro:=c.ro) (fun i cc hcc=>by grind [Js]) hv hb2s;have hkM:∀cc∈V7 S.mem,∃ob,Qk (frz c.Γ ri es S.mem) cc=some ob:=fun cc hcc=>J74 (by grind [frz,Qqb]);generalize hM0:frz c.Γ ri es S.mem=M0 at *
      have hwk:∀(p:Nat×SkO→Bool) id,id∈(c.Γ.mem.filter p).map Prod.fst→id∈c.Γ.mem.map Prod.fst:=fun p id hid=>by
       grind
      have hdisj:∀cc∈Yl ri (rdG c.ro c.Γ.mem),cc∉Yl ri (wrG c.ro c.Γ.mem):=fun cc h1 h2=>by
       obtain⟨i1,p1,p2⟩:=Dl h1;obtain⟨i2,r1,r2⟩:=Dl h2;obtain⟨q1,s1,rfl⟩:=QK.1 p1;obtain⟨q2,s2,rfl⟩:=QK.1 r1;have t1:=(QB.1 s1).2;have t2:=(QB.1 s2).2;have k1:q1.1∈(Xw c.Γ.mem v).map Prod.fst:=by rw[m1]; exact QK.2 ⟨_,(QB.1 s1).1,rfl⟩
       have k2:q2.1∈(Xw c.Γ.mem v).map Prod.fst:=by rw[m1]; exact QK.2 ⟨_,(QB.1 s2).1,rfl⟩
       obtain⟨e1,f1,g1⟩:=QK.1 k1;obtain⟨e2,f2,g2⟩:=QK.1 k2;obtain⟨pw,_⟩:=Qd8 b1 m1;have hne:q1.1≠q2.1:=fun e=>by rw[e]at t1; rw[t1]at t2; cases t2
       have key:∀{l:List (Nat×Ob)},(l.Pairwise fun q q'=>∀c c',Jy ri q.1=some c→Jy ri q'.1=some c'→c≠c')→e1∈l→e2∈l→False:=by
        intro l hl
        induction l with
        | nil=>intro h; cases h
        | cons z l ih =>
         have hl':=List.pairwise_cons.1 hl;grind
       grind
      have hp1:=Xj (Yl ri (wrG c.ro c.Γ.mem)) M0;have hp2:=Xj (Yl ri (rdG c.ro c.Γ.mem)) ((Jv M0 (Yl ri (wrG c.ro c.Γ.mem))).1++S.fixM)
      have hlkR:∀cc∈Yl ri (rdG c.ro c.Γ.mem),Qk ((Jv M0 (Yl ri (wrG c.ro c.Γ.mem))).1++S.fixM) cc=Qk (M0++S.fixM) cc:=fun cc hcc=>by
       have e:=Qf4 (M:=M0) (hdisj cc hcc);cases hl:Qk M0 cc with
       | none=>rw[Qye hl,Qye (e.trans hl)]
       | some ob=>rw[Jd hl,Jd (e.trans hl)]
      have hlkN:∀cc∈Yl ri (wrG c.ro c.Γ.mem),∀ob,Qk (M0++S.fixM) cc=some ob→Qk M0 cc=some ob:=fun cc hcc ob hob=>by
       obtain⟨ob',hob'⟩:=hkM cc (Jpy hb2m hcc);rw[Jd hob']at hob;rw[hob',hob]
      have hsR:=Qcw (M:=(Jv M0 (Yl ri (wrG c.ro c.Γ.mem))).1++S.fixM) ln2
      have hroE:Gm (Js ri d) (rdM c.ro (Xw c.Γ.mem v))=(Jv ((Jv M0 (Yl ri (wrG c.ro c.Γ.mem))).1++S.fixM) (Yl ri (rdG c.ro c.Γ.mem))).2:=by
       refine hroS.trans ?_;refine(J6a fun x hx=>?_).trans hsR.symm;rw[hlkR x hx]
      obtain⟨Ml,hMl0⟩:∃Ml,Ml=(Jv M0 (Yl ri (wrG c.ro c.Γ.mem))).2++(Jv ((Jv M0 (Yl ri (wrG c.ro c.Γ.mem))).1++S.fixM) (Yl ri (rdG c.ro c.Γ.mem))).2:=⟨_,rfl⟩
      have hF1:∀q∈Ml,∃id∈c.Γ.mem.map Prod.fst,Jy ri id=some q.1∧Qk (M0++S.fixM) q.1=some q.2:=fun q hq=>by
       rw[hMl0]at hq;rcases QZ.1 hq with hq | hq
       ·obtain⟨p1,p2⟩:=Qf3 ln1 q hq
        grind [id,Dl,Jd]
       ·obtain⟨p1,p2⟩:=Qf3 ln2 q hq
        obtain⟨id,p3,p4⟩:=Dl p1;exact⟨id,hwk _ id p3,p4,by rw[←hlkR _ p1]; exact p2⟩
      have hMl:∀id∈c.Γ.mem.map Prod.fst,∀cc ob,Jy ri id=some cc→Qk (M0++S.fixM) cc=some ob→(cc,ob)∈Ml:=by
       intro id hid cc ob e3 e4;rw[hMl0];obtain⟨q,hq,rfl⟩:=QK.1 hid;cases hm:Yr c.ro q.1 with
       | true =>
        have hin:cc∈Yl ri (rdG c.ro c.Γ.mem):=Qb1 (QK.2 ⟨q,QB.2 ⟨hq,hm⟩,rfl⟩) e3;exact List.mem_append_right _ (Qf2 ln2 hin (by rw[hlkR _ hin]; exact e4))
       | false =>
        have hin:cc∈Yl ri (wrG c.ro c.Γ.mem):=Qb1 (QK.2 ⟨q,QB.2 ⟨hq,by rw[hm]; rfl⟩,rfl⟩) e3;exact List.mem_append_left _ (Qf2 ln1 hin (hlkN _ hin _ e4))
      generalize hMn0:(Jv M0 (Yl ri (wrG c.ro c.Γ.mem))).2=Mn at *;generalize hMr0:(Jv M0 (Yl ri (wrG c.ro c.Γ.mem))).1=Mr0 at *;generalize hMo0:(Jv (Mr0++S.fixM) (Yl ri (rdG c.ro c.Γ.mem))).2=Mo at *;generalize hMr1:(Jv (Mr0++S.fixM) (Yl ri (rdG c.ro c.Γ.mem))).1=Mr at *
      have hperm:(Ml++Mr).Perm (M0++S.fixM):=by
       rw[hMl0,List.append_assoc];refine(List.Perm.append_left Mn hp2).trans ?_;rw[←List.append_assoc];exact hp1.append_right _
      have h2:Sb (fun _=>0) X [] ((S.env++S.fix).map (enD β ρ a)) [] (Qq β ρ Ml++Qq β ρ Mr) a w:=by
       refine Sb.perm h1 ?_;rw[←QC];exact List.Perm.map _ hperm.symm
      have hok2:∀b f,okR X β ρ (M0++S.fixM) w b f→Jr X.ok X.w.heap.size (fun _=>0) [] (Qq β ρ Ml++Qq β ρ Mr) w b f:=by
       rintro b f ⟨o1,o2,o3,o4⟩;refine⟨o1,o2,o3,fun t' ht'=>?_⟩;grind
      have hmk:∀q∈Xw c.Γ.mem v,q.1∈c.Γ.mem.map Prod.fst:=by
       grind
      have hval:∀q∈Xw c.Γ.mem v,(∃cc ob,Jy ri q.1=some cc∧(cc,ob)∈Ml∧Qwf ob=false∧(∀g,(Jb (Bm ri β) (Au ri [] ρ) q.1 q.2).blks g→(Jb β ρ cc ob).blks g))∨(∀g,¬ (Jb (Bm ri β) (Au ri [] ρ) q.1 q.2).blks g):=by
       intro q hq;rcases m2 q hq with⟨cc,ob,e3,e4,e5,_⟩ | ⟨_,e5,_⟩
       ·have hid:=hmk q hq
        grind
       ·exact .inr e5
      have hLm:∀g,g∈(Xw c.Γ.mem v).flatMap (Jcf (Bm ri β) (Au ri [] ρ))↔∃q∈Xw c.Γ.mem v,(Jb (Bm ri β) (Au ri [] ρ) q.1 q.2).blks g:=by
       grind [Juh]
      generalize hL:(Xw c.Γ.mem v).flatMap (Jcf (Bm ri β) (Au ri [] ρ))=L at hLm
      have hLends:Qtu (Qq (Bm ri β) (Au ri [] ρ) (enc c.Γ x).mem) L (Jr X.ok X.w.heap.size (fun _=>0) [] (Qq β ρ Ml++Qq β ρ Mr) w) w:=by
       rw[henc];refine⟨fun t ht=>?_,?_,fun g hg=>?_⟩
       ·obtain⟨q,hq,rfl⟩:=QK.1 ht
        refine⟨?_,fun g hg=>(hLm g).2 ⟨q,hq,hg⟩,fun g f hg hok=>?_⟩
        ·rcases m2 q hq with⟨_,_,_,_,_,_,e6⟩ | ⟨_,_,e6⟩
         ·exact(Jb _ _ q.1 q.2).weak e6 hok2
         ·exact e6 _ _
        ·rcases hval q hq with⟨cc,ob,_,e4,e5,e6⟩ | e6
         ·exact hok.2.2.2 _ (List.mem_append_left _ (QK.2 ⟨_,e4,rfl⟩)) (Jcg e5 f (e6 g hg))
         ·exact e6 g hg
       ·obtain⟨p1,_⟩:=Qd8 b1 m1
        show((Xw c.Γ.mem v).map _).Pairwise _;rw[JL];refine List.Pairwise.imp_of_mem ?_ p1;intro q q' hq hq' hne g hg hg';rcases m2 q hq with⟨cc,ob,e3,e4,e5,_⟩ | ⟨_,e5,_⟩
        ·rcases m2 q' hq' with⟨cc',ob',e3',e4',e5',_⟩ | ⟨_,e5',_⟩
         ·exact h1.disj e4 e4' (hne cc cc' e3 e3') g (e5 g hg) (e5' g hg')
         ·exact e5' g hg'
        ·exact e5 g hg
       grind
      have hargs:∀e∈(enc c.Γ x).env,∃cs,(xs.map a.eval++vc)[e.t]?=some (e.av.val cs)∧cr (Bm ri β) (Au ri [] ρ) (Jr X.ok X.w.heap.size (fun _=>0) [] (Qq β ρ Ml++Qq β ρ Mr) w) w false e.av cs:=by
       intro e he;rw[henc]at he
       have hcs:e.cs=[]:=by
        have:=Qsc (Γe:=c.Γ.env) (l:=u++v) e (by rw[e1]; exact he);exact this
       obtain⟨cs,p1,p2⟩:=(e2 e he).1.1 (by rw[hcs]; exact Qi _);rw[Qbx (e2 e he).2]at p1;grind [Hr]
      have hcall:=hc _ w L _ _ x y (xs.map a.eval++vc) (fun b f hk=>hk.2.1) (Qd9 h2 hG) (by rw[←el,hlen]) hLends hargs hy;subst hf;refine J5 hw ?_
      have hrun':(execOp a.eval o).run P w=.ok (.enter c.f ⟨xs.map a.eval++vc⟩) w:=by
       grind [execOp,resolve,Deferred.ofValue,invoke,Qpk]
      unfold Oper.wp;rw[hrun'];refine hcall.mono ?_;rintro e' w' ⟨v0,rfl,⟨β2,ρ2,hag,⟨cs,hv0,hcr⟩,hT2,hpw2⟩,hbel⟩;show wpList P ops Q rest (a.put o.dst v0) w';rw[hd]
      have hLl:∀g∈L,∃t∈Qq β ρ Ml,t.blks g:=by
       intro g hg;obtain⟨q,hq,hg⟩:=(hLm g).1 hg;grind
      have hcov:∀t∈Qq β ρ Ml,∀b f,t.blks b→t.cov b f:=by
       intro t ht b f hb;obtain⟨q,hq,rfl⟩:=QK.1 ht;grind [id,Jcg]
      have h3:=Sb.callO h2 hbel hLl hcov hT2 hpw2
      have hROk:∀j∈(roM c x).map Prod.fst,∃cc,Jy ri j=some cc∧j∈c.Γ.mem.map Prod.fst:=fun j hj=>by
       obtain⟨q,hq,rfl⟩:=QK.1 hj;unfold roM at hq;rw[henc]at hq;obtain⟨hq1,hq2⟩:=QB.1 hq;have hk:=hmk q hq1;obtain⟨q',hq',he'⟩:=QK.1 hk;obtain⟨cc,hcc⟩:=Q3p hb2s q.1 (QK.2 ⟨q',QB.2 ⟨hq',by rw[he']; exact hq2⟩,he'⟩);grind
      have hroE2:Gm (Js ri d) (roM c x)=Mo:=by grind [roM]
      generalize hRO:roM c x=RO at *;generalize hS1:Qje c.Δ y=S1 at *;generalize hks:(S1.mem++RO).map Prod.fst=ks at *
      have hA:∀j∈ks,backB (Js ri d) ks β2 β (Js ri d j)=β2 j∧T5 (Js ri d) ks ρ2 ρ (Js ri d j)=ρ2 j:=by
       intro j hj;have:=Jci (g:=Js ri d) (ks:=ks) (by rw[←hks,List.map_map]; exact Qec n2) j hj;grind [backB,T5]
      have hcase:∀j∈ks,(∃cc,Jy ri j=some cc∧Js ri d j=cc∧j∈c.Γ.mem.map Prod.fst) ∨
        (Jy ri j=none∧Yo (Js ri d j) Mr0=true∧Yo (Js ri d j) S.fixM=true∧Qp2 (Js ri d j) S.fix=true∧Qp2 (Js ri d j) S.env=true∧Yr S.prot (Js ri d j)=false∧j∉c.Γ.mem.map Prod.fst):=by
       intro j hj;rw[←hks,QC]at hj;rcases QZ.1 hj with hj | hj
       ·exact Jch n1 j hj
       grind [Js]
      have hB:∀i,(∀j∈ks,Jy ri j=none→Js ri d j≠i)→backB (Js ri d) ks β2 β i=β i∧T5 (Js ri d) ks ρ2 ρ i=ρ i:=by
       intro i hi;cases hfd:ks.find? (fun j=>Js ri d j==i)with
       | none=>grind [backB,T5]
       | some j =>
        have hj:=List.mem_of_find?_eq_some hfd;have hji:Js ri d j=i:=by grind
        rcases hcase j hj with⟨cc,p1,p2,p3⟩ | ⟨p1,_⟩
        ·obtain⟨q1,q2⟩:=hag j p3
         grind [backB,Bm,T5,Au]
        grind
      have hfr:=fun j hj (hn:Jy ri j=none)=>(hcase j hj).resolve_left fun⟨cc,p1,_⟩=>by rw[hn]at p1; cases p1
      have hEnv:∀e∈S.env++S.fix,∀i∈Jk e.av,backB (Js ri d) ks β2 β i=β i∧T5 (Js ri d) ks ρ2 ρ i=ρ i:=by
       grind [Km,Js,Qx1,T6]
      have hMem:∀i∈Jq Mr,backB (Js ri d) ks β2 β i=β i∧T5 (Js ri d) ks ρ2 ρ i=ρ i:=by
       intro i hi;refine hB i fun j hj hn hji=>?_;obtain⟨_,p2,p3,_⟩:=hfr j hj hn;replace hi:=Jpx (fun q hq=>hp2.mem_iff.1 (List.mem_append_right _ hq)) hi
       have happ:∀(l m:List (Nat×Ob)),Jq (l++m)=Jq l++Jq m:=by
        intro l m
        induction l with
        | nil=>rfl
        | cons q l ih =>
         obtain⟨k0,o0⟩:=q;cases o0 with
         | mapC k1 v xs hole=>cases hole<;>simp[Jq,ih]
         | _=>simp[Jq,ih]
       rw[happ,QZ]at hi;grind [Qyf]
      have hsim:Ha (Qq β2 ρ2 (S1.mem++RO)++Qq β ρ Mr) (Qq (backB (Js ri d) ks β2 β) (T5 (Js ri d) ks ρ2 ρ) (Gm (Js ri d) (S1.mem++RO))++Qq (backB (Js ri d) ks β2 β) (T5 (Js ri d) ks ρ2 ρ) Mr) :=
       (Q68 fun i hi=>hA i (Dm n4 i hi)).append (Q3n hMem)
      have h4:=Sb.simO h3 hsim
      have hmemO:Qq (backB (Js ri d) ks β2 β) (T5 (Js ri d) ks ρ2 ρ) (Gm (Js ri d) (S1.mem++RO))++Qq (backB (Js ri d) ks β2 β) (T5 (Js ri d) ks ρ2 ρ) Mr =
        Qq (backB (Js ri d) ks β2 β) (T5 (Js ri d) ks ρ2 ρ) ((Gm (Js ri d) S1.mem++Mo)++Mr):=by
       rw[show Gm (Js ri d) (S1.mem++RO)=Gm (Js ri d) S1.mem++Gm (Js ri d) RO from QC,hroE2];grind
      have h5:Rel X (backB (Js ri d) ks β2 β) (T5 (Js ri d) ks ρ2 ρ) ⟨S.env++S.fix,(Gm (Js ri d) S1.mem++Mo)++Mr⟩ a w':=by
       refine Rel.ofSb h4 hmemO fun e he=>?_;have hp:=Yq.1 h4.dat _ (QK.2 ⟨e,he,rfl⟩);rw[hmemO]at hp;exact⟨fun hcc=>let⟨cs,q1,q2⟩:=hp.1 hcc; ⟨cs,q1,Eo (hEnv e he) q2⟩,hp.2⟩
      have hres:cr (backB (Js ri d) ks β2 β) (T5 (Js ri d) ks ρ2 ρ) (okR X (backB (Js ri d) ks β2 β) (T5 (Js ri d) ks ρ2 ρ) ((Gm (Js ri d) S1.mem++Mo)++Mr) w') w' false (Gc (Js ri d) (Qd7 S1.env)) cs:=by
       have q1:=Qf1 (g:=Js ri d) (fun i hi=>hA i (Dm n3 i (Jpz _ i hi))) hcr;refine Hr q1 fun b f hk=>?_;have q2:=hsim.ok b f (Qlv h2 hbel.size hLl b f hk);rw[hmemO]at q2;exact q2
      have h6:=h5.put0 hd1 hres;have hvv:(Gc (Js ri d) (Qd7 S1.env)).val cs=v0:=by rw[hv0]; exact Jz3 _ _ _
      rw[hvv]at h6
      have hfin:((Gm (Js ri d) S1.mem++Mo)++Mr).Perm ((Gm (Js ri d) S1.mem++Mr0)++S.fixM):=by
       rw[List.append_assoc,List.append_assoc];exact List.Perm.append_left _ hp2
      refine H _ _ _ _ _ hs ⟨rfl,rfl,rfl,fun i hi=>hB i fun j hj hn hji=>?_⟩ ?_
      ·grind [Wb]
      ·rw[Hb (S:=⟨S.env,S.fix,Gm (Js ri d) S1.mem++Mr0,S.fixM,S.prot⟩) hd2]
       exact Sb.perm h6 (hfin.map _)
     ·cases hx
    ·cases hs
   ·cases hs
  ·cases hs
 ·cases hs
end
end Gx

/- Small things for regions of open order. -/
namespace Gx
open Go Go.RowKit Gd
theorem Jlm{l:List Oper}{p k i:Nat}(h:J54 l p=true)(hk:p≤k)(hkl:k<l.length)(hi:i<k):If l l.length k i=true:=by
 have h1:=QR.1 h k (JU.2 hkl);simp only[JZ]at h1;rcases h1 with h1 | h1
 ·have:=QV h1; omega
 grind
theorem Qqc:∀{l:List Nat} {t:Nat},Yr l t=true→t∈l
 | [],t,h=>by cases h
 | k::l,t,h=>by
  simp only[Yr]at h;cases hb:Nat.beq k t with
  | true=>rw[Nat.eq_of_beq_eq_true hb]; exact .head _
  | false=>rw[hb]at h; exact .tail _ (Qqc (by simpa using h))
theorem Qqd:∀{env:List En} {e:En},e∈Jie env→e.cs=[]∧e∈env∧Nat.blt e.t 100000=false
 | [],e,h=>by simp[Jie]at h
 | x::l,e,h=>by
  simp only[Jie]at h;cases hb:Nat.blt x.t 100000 with
  | true =>
   rw[hb]at h;obtain⟨h1,h2,h3⟩:=Qqd (env:=l) h;grind
  | false =>
   rw[hb]at h;simp only[cond_false]at h;split at h
   ·rename_i hc
    rcases QX.1 h with rfl | h
    ·grind
    ·obtain⟨h1,h2,h3⟩:=Qqd (env:=l) h
     grind
   ·obtain⟨h1,h2,h3⟩:=Qqd (env:=l) h
    grind
theorem Jp0{l:List Nat}{i d:Nat}(hi:i<l.length)(h:l.getD i 0=d):l[i]?=some d:=by
 rw[List.getD_eq_getElem?_getD,List.getElem?_eq_getElem hi]at h;rw[List.getElem?_eq_getElem hi]; grind
abbrev Qme(E:Nat→Bool)(i:Nat):Nat→Bool:=fun j=>j==i||E j
theorem Qqe{l:List Nat}{t:Nat}(h:t∈l):Yr l t=true:=by
 induction l with
 | nil=>cases h
 | cons k l ih =>
  simp only[Yr,JZ];rcases QX.1 h with rfl | h
  ·simp_all
  grind
theorem Qjj:∀{M:List (Nat×Ob)} {id:Nat},B6 (Qk M id)=true→id∈V7 M
 | [],id,h=>by simp[Qk,B6]at h
 | (k,ob)::l,id,h=>by
  simp only[Qk]at h;cases hb:Nat.beq k id with
  | true=>rw[Nat.eq_of_beq_eq_true hb]; exact .head _
  | false=>rw[hb]at h; exact .tail _ (Qjj h)
theorem J75{a b:Nat}(h:a≠b):Nat.beq a b=false:=by
 grind [Nat.beq,absurd,Nat.eq_of_beq_eq_true]
theorem Qn9:∀{M:List (Nat×Ob)},(V7 M).Nodup→∀q∈M,Qk M q.1=some q.2
 | [],_,q,h=>by cases h
 | (k,x)::l,hn,q,h=>by
  have hn':=JJ.1 (show(k::V7 l).Nodup from hn);simp only[Qk];rcases QX.1 h with rfl | h
  ·simp_all
  ·have hne:k≠q.1:=fun e=>hn'.1 (e▸QK.2 ⟨q,h,rfl⟩)
   rw[J75 hne];exact Qn9 hn'.2 q h
theorem Q3q:∀{ds:List Nat} {env:List En} {e:En},e∈Qt3 env ds→e∈env∧∀d∈ds,Km d e.av=true∧e.t≠d∧∀c∈e.cs,c.1≠d
 | [],env,e,h=>⟨h,by simp⟩
 | d::ds,env,e,h=>by
  obtain⟨h1,h2⟩:=Q3q (ds:=ds) h;obtain⟨h3,h4,h5⟩:=Tu h1;obtain⟨h6,h7⟩:=Qn8 h3;grind
theorem Qyh{α:Type}{f g:α→Bool}:∀{l:List α} {x:α},(∀y,f y=true→g y=true)→x∈l→f x=false→g x=true→(l.filter f).length<(l.filter g).length
 | y::ys,x,hfg,hx,h1,h2=>by
  have hle:∀zs:List α,(zs.filter f).length≤(zs.filter g).length:=by
   intro zs
   induction zs with
   | nil=>simp
   | cons z zs ih =>
    grind
  rcases QX.1 hx with rfl | hx
  ·grind
  ·have:=Qyh hfg hx h1 h2
   grind
end Gx

/- Regions, control, functions. -/
namespace Gx
open Go Go.RowKit Gd
def Jcl(P:Program)(gl:List (Nat×Σ t:Ty,t.De))(K:List Con):Prop:=∀c∈K,Qne P gl c∧Runs P c.f
def KsX(P:Program)(Y:TX)(X:Cx)(K:List Con):Prop:=Jcl P Y.gl K∧Zj Y.gl (okN X) X.w
theorem Jui{M:List (Nat×Ob)}(x:AV):(Qct M x).isAgg=x.isAgg:=by
 cases x with
 | s id =>
  simp only[Qct];split<;>rfl
 | _=>rfl
theorem Jcm{M:List (Nat×Ob)}(x:AV)(cs:List Value):(Qct M x).val cs=x.val cs:=by
 unfold AV.val;rw[Jui]
theorem Qqf{M:List (Nat×Ob)}:∀{x:AV} {i:Nat},i∈Jk (Qct M x)→i∈Jk x
 | .s id,i,h=>by
  simp only[Qct]at h;split at h
  ·cases h
  ·exact h
 | .ag l,i,h=>Qqf (x:=l) h
 | .cons x r,i,h=>by
  rcases QZ.1 (show i∈Jk (Qct M x)++Jk (Qct M r)from h)with h | h
  ·exact List.mem_append_left _ (Qqf h)
  ·exact List.mem_append_right _ (Qqf h)
 | .d ..,i,h=>h
 | .p ..,i,h=>h
 | .e ..,i,h=>h
 | .m _,i,h=>h
 | .b _,i,h=>h
 | .w ..,i,h=>h
 | .a ..,i,h=>h
 | .z,i,h=>h
 | .ns,i,h=>h
 | .np,i,h=>h
 | .nm,i,h=>h
 | .nf,i,h=>h
 | .f ..,i,h=>h
 | .tp _,i,h=>h
 | .nil,i,h=>h
section
variable {β:Nat→Nat} {ρ:Nat→Value} {ok:Ok} {w:World}
theorem Qf5{M:List (Nat×Ob)}(hM:∀id o,Qk M id=some o→(Jb β ρ id o).p ok w):∀{m:Bool} {x:AV} {cs:List Value},cr β ρ ok w m x cs→cr β ρ ok w m (Qct M x) cs
 | m,.s id,cs,h=>by
  simp only[Qct];split
  ·rename_i e t xs ho
   have h1:=(hM _ _ ho).1;have h':(∃v,cs=[v]∧zal v (ρ id))∧∃A n c,ρ id=.slice A n c:=by cases m<;>exact h
   obtain⟨⟨v,rfl,hz⟩,_⟩:=h';have h2:(rt (.sl t)).rep ok w xs [v]:=⟨_,rfl,Xv.1 (Q6s hz h1)⟩
   cases m<;>exact h2
  ·exact h
 | m,.ag l,cs,h=>by
  have h':cr β ρ ok w false l cs:=by cases m<;>exact h
  have:=Qf5 hM (m:=false) (x:=l) h';cases m<;>exact this
 | true,.cons x r,cs,⟨c1,vs,h1,h2,h3⟩=>⟨c1,vs,by rw[h1,Jcm],Qf5 hM h2,Qf5 hM h3⟩
 | false,.cons x r,cs,⟨c1,c2,h1,h2,h3⟩=>⟨c1,c2,h1,Qf5 hM h2,Qf5 hM h3⟩
 | m,.d ..,cs,h=>h
 | m,.p ..,cs,h=>h
 | m,.e ..,cs,h=>h
 | m,.m _,cs,h=>h
 | m,.b _,cs,h=>h
 | m,.w ..,cs,h=>h
 | m,.a ..,cs,h=>h
 | m,.z,cs,h=>h
 | m,.ns,cs,h=>h
 | m,.np,cs,h=>h
 | m,.nm,cs,h=>h
 | m,.nf,cs,h=>h
 | m,.f ..,cs,h=>h
 | m,.tp _,cs,h=>h
 | m,.nil,cs,h=>h
end
theorem Sb.replO{β0:Nat→Nat}{X:Cx}{G:GL}{D:List DF}{H:HL}{O1 O2:List TL}{t t':TL}{a:Act}{w:World}(h:Sb β0 X G D H (O1++t::O2) a w)(h1:∀g,t'.blks g↔t.blks g)(h2:∀b o,t'.cov b o↔t.cov b o)
  (hp:t'.p (Jr X.ok X.w.heap.size β0 H (O1++t::O2) w) w):Sb β0 X G D H (O1++t'::O2) a w:=by
 have hmem:∀u∈O1++t'::O2,u=t'∨u∈O1++t::O2:=fun u hu=>by
  grind
 have ht:t∈O1++t::O2:=List.mem_append_right _ (.head _)
 have hok:∀b o,Jr X.ok X.w.heap.size β0 H (O1++t::O2) w b o→Jr X.ok X.w.heap.size β0 H (O1++t'::O2) w b o:=fun b o ⟨q1,q2,q3,q4⟩=>⟨q1,q2,q3,fun u hu hc=>by
  grind⟩
 refine { sz:=h.sz,df:=h.df,fr:=h.fr,pn:=h.pn,tm:=h.tm,bel:=h.bel,dat:=h.dat.weak hok,obj:=h.obj,own:=fun u hu=>?_,dHH:=h.dHH,dHO:=fun p hp' u hu=>?_,dOO:=?_ }
 ·rcases hmem u hu with rfl | hu
  ·exact⟨u.weak hp hok,fun g hg=>(h.own t ht).2 g ((h1 g).1 hg)⟩
  ·exact⟨u.weak (h.own u hu).1 hok,(h.own u hu).2⟩
 ·rcases hmem u hu with rfl | hu
  ·exact fun hb=>h.dHO p hp' t ht ((h1 _).1 hb)
  ·exact h.dHO p hp' u hu
 ·have:=h.dOO
  rw[QA,List.pairwise_cons]at this ⊢;grind
theorem J76{X:Cx}{β:Nat→Nat}{ρ:Nat→Value}{a:Act}{w:World}{S:XS}(h:Rel X β ρ S.flat a w){id:Nat}{tid:TypeId}{c:AV}(hm:Qk S.mem id=some (.var tid c)):Rel X β ρ (S.set id (.var tid (Qct S.flat.mem c))).flat a w:=by
 have hm':Qk S.flat.mem id=some (.var tid c):=Jd hm;obtain⟨l1,l2,e1,e2,e3⟩:=J8 hm'
 have hE:(S.set id (.var tid (Qct S.flat.mem c))).flat=⟨S.flat.env,Qps S.flat.mem id (.var tid (Qct S.flat.mem c))⟩:=by
  grind [XS.flat,XS.set,Dk]
 rw[hE,e2];have hO:Qq β ρ S.flat.mem=Qq β ρ l1++Jb β ρ id (.var tid c)::Qq β ρ l2:=by rw[e1]; simp[Qq]
 have hmem:Qq β ρ (l1++(id,Ob.var tid (Qct S.flat.mem c))::l2)=Qq β ρ l1++Jb β ρ id (.var tid (Qct S.flat.mem c))::Qq β ρ l2:=by simp[Qq]
 have h0:Sb (fun _=>0) X [] (S.flat.env.map (enD β ρ a)) [] (Qq β ρ l1++Jb β ρ id (.var tid c)::Qq β ρ l2) a w:=by rw[←hO]; exact h
 obtain⟨cs,q1,q2⟩:=(h.ob hm').1
 have hS:=Sb.replO h0 (t':=Jb β ρ id (.var tid (Qct S.flat.mem c))) (fun _=>Iff.rfl) (fun _ _=>Iff.rfl) (by
  rw[←hO]
  exact⟨cs,q1,Qf5 h.mm q2⟩)
 exact Rel.ofSb hS hmem.symm fun e he=>by
  have:=Yq.1 hS.dat _ (QK.2 ⟨e,he,rfl⟩);rw[←hmem]at this;exact this
section
variable {P:Program} {Y:TX} {X:Cx} {S:XS} {β β':Nat→Nat} {ρ ρ':Nat→Value} {a a':Act} {w w':World} {n N:Nat} {K:List Con}
variable {Q:Exit→Act→World→Prop} {R:Type} {r:R}
theorem Qqg{env:List En}:∀{ts:List Nat},∀e∈Q1f env ts,e∈env
 | [],e,he=>by simp[Q1f]at he
 | t::ts,e,he=>by
  simp only[Q1f]at he;split at he
  ·rename_i x hx
   rcases QX.1 he with rfl | he
   ·grind [Kl]
   ·exact Qqg e he
  ·exact Qqg e he
theorem Rel.ent(h:Rel X β ρ S.flat a w)(ks ms:List Nat):Rel X β ρ (S.ent ks ms).flat a w:=by
 have h1:Rel X β ρ ⟨S.env++(Q1f S.env ks++S.fix),S.flat.mem⟩ a w:=Rel.less (S:=S.flat) h fun e he=>by
  rcases QZ.1 he with he | he
  ·exact List.mem_append_left _ he
  ·rcases QZ.1 he with he | he
   ·exact List.mem_append_left _ (Qqg e he)
   ·exact List.mem_append_right _ he
 refine h1.permM ?_;simp only[XS.flat,XS.ent];have:=Xj ms S.mem;rw[←List.append_assoc];exact((JY.trans this).append_right _).symm
theorem Qjk(ks ms:List Nat)(S1:St):(S.out ks ms S1).flat=((S.ent ks ms).re S1).flat:=by simp[XS.flat,XS.out,XS.re,XS.ent]
theorem Qcx{S0 S':XS}{Γ:Shp}(h:Rel X β ρ S'.flat a w)(hk:S'.fix=S0.fix∧S'.fixM=S0.fixM∧S'.prot=S0.prot){x:Γ.De}(hd:S'.dec Γ=some x) :
  ∃β' ρ',agP S0.prot β β' ρ ρ'∧Rel X β' ρ' (S0.re (enc Γ x)).flat a w:=by
 obtain⟨β',ρ',h1,h2⟩:=XS.dec_ok h hd;rw[hk.2.2]at h1;rw[hk.1,hk.2.1]at h2;exact⟨β',ρ',h1,h2⟩
theorem Qyi(h:Rel X β ρ S.flat a w){t:Nat}{x:AV}(he:Wo S.env t=some ⟨t,[],x⟩):Rel X β ρ (XS.put S t [] x).flat a w:=by
 obtain⟨hm,_⟩:=Kl he;refine Rel.less (S:=S.flat) h fun e hE=>?_;rcases QZ.1 hE with hE | hE
 ·rcases QX.1 hE with rfl | hE
  ·exact List.mem_append_left _ hm
  ·exact List.mem_append_left _ (Tu hE).1
 ·exact List.mem_append_right _ hE
theorem Jln(h:Rel X β ρ S.flat a w){t:Nat}{b:Bool}(he:Wo S.env t=some ⟨t,[],.d .bool b⟩):Rel X β ρ (XS.put S t [] (.d .bool b)).flat a w:=by
 obtain⟨hm,_⟩:=Kl he;refine Rel.less (S:=S.flat) h fun e hE=>?_;rcases QZ.1 hE with hE | hE
 ·rcases QX.1 hE with rfl | hE
  ·exact List.mem_append_left _ hm
  ·exact List.mem_append_left _ (Tu hE).1
 ·exact List.mem_append_right _ hE
theorem Uf(hT:Jg P Y.T)(hK:KsX P Y X K)(hX:X.n=n)(hr:X.res=[]){ops:List Oper}{Q:Exit→Act→World→Prop}:∀{R:Type} {r:R} (h:Hn) {l rest:List Oper} {S:XS} {β:Nat→Nat} {ρ:Nat→Value} {a:Act} {w:World} {k:XS→Option R},
  Rel X β ρ S.flat a w→Vk Y K n ops h l S k=some r→KOk P ⟨ops⟩ Q rest X S β ρ k r→wpList P ⟨ops⟩ Q (l++rest) a w
 | R,r,.done,l,rest,S,β,ρ,a,w,k,hS,hs,H=>by
  cases l with
  | nil=>exact H β ρ S a w (by simp_all [Vk]) (Vv.refl _ _ _) hS
  | cons o l=>simp[Vk]at hs
 | R,r,.n m g,l,rest,S,β,ρ,a,w,k,hS,hs,H=>by
  simp only[Vk]at hs;have:=Q67 (P:=P) (X:=X) (Q:=Q) (r:=r) (Qp4 Y n ops) (fun h1 h2 h3=>Jua hT hX hr h1 h2 h3) (l1:=l.take m) (rest:=l.drop m++rest) hS hs fun β' ρ' S' a' w' h1 h2 h3=>Uf hT hK hX hr g h3 h1 (H.after h2)
  rwa[←List.append_assoc,List.take_append_drop]at this
 | R,r,.nl m g,l,rest,S,β,ρ,a,w,k,hS,hs,H=>by
  simp only[Vk]at hs;have:=Q67 (P:=P) (X:=X) (Q:=Q) (r:=r) (Gx.stepL Y n ops) (fun h1 h2 h3=>Jub hT hX hr h1 h2 h3) (l1:=l.take m) (rest:=l.drop m++rest) hS hs fun β' ρ' S' a' w' h1 h2 h3=>Uf hT hK hX hr g h3 h1 (H.after h2)
  rwa[←List.append_assoc,List.take_append_drop]at this
 | R,r,.call c g,l,rest,S,β,ρ,a,w,k,hS,hs,H=>by
  simp only[Vk]at hs;split at hs
  ·rename_i con o l' hc
   split at hs
   ·rename_i hg
    have hcm:=hK.1 con (List.mem_of_getElem? hc);exact Qt7 hX hr hS (Ep (Tj hg) _) hcm.1 hK.2 hcm.2 hs fun β' ρ' S' a' w' h1 h2 h3=>Uf hT hK hX hr g h3 h1 (H.after h2)
   ·rename_i t want hg
    split at hs
    ·rename_i t' b he
     split at hs
     ·rename_i hb
      have hbw:b=want:=by simpa using hb
      subst hbw;obtain⟨cs,h1,h2⟩:=hS.get he (Qi a);have h2':cs=_:=h2;subst h2';have hcm:=hK.1 con (List.mem_of_getElem? hc);exact Qt7 hX hr hS ((Uy hg).2 h1) hcm.1 hK.2 hcm.2 hs fun β' ρ' S' a' w' h1 h2 h3=>Uf hT hK hX hr g h3 h1 (H.after h2)
     ·cases hs
    ·cases hs
   ·cases hs
  ·cases hs
 | R,r,.br g,l,rest,S,β,ρ,a,w,k,hS,hs,H=>by
  simp only[Vk]at hs;split at hs
  ·rename_i o l'
   split at hs
   ·rename_i hg
    exact Jcc hT hX hr hS (Ep (Tj hg) _) hs fun β' ρ' S' a' w' h1 h2 h3=>Uf hT hK hX hr g h3 h1 (H.after h2)
   ·rename_i t want hg
    split at hs
    ·rename_i t' b he
     split at hs
     ·rename_i hb
      have hbw:b=want:=by simpa using hb
      subst hbw;obtain⟨cs,h1,h2⟩:=hS.get he (Qi a);have h2':cs=_:=h2;subst h2';exact Jcc hT hX hr hS ((Uy hg).2 h1) hs fun β' ρ' S' a' w' h1 h2 h3=>Uf hT hK hX hr g h3 h1 (H.after h2)
     ·cases hs
    ·cases hs
   ·cases hs
  ·cases hs
 | R,r,.fz id g,l,rest,S,β,ρ,a,w,k,hS,hs,H=>by
  simp only[Vk]at hs
  have h1:Rel X β ρ (XS.flat { S with mem:=Ud [id] S.mem }) a w:=by
   have:=Rel.freeze S.mem (l0:=[]) (F:=S.fixM) (ks:=[id]) hS;simp only[QE]at this;exact this
  exact Uf hT hK hX hr g h1 hs (H.after ⟨rfl,rfl,rfl,agP.refl _ _ _⟩)
 | R,r,.keep ts g,l,rest,S,β,ρ,a,w,k,hS,hs,H=>by
  simp only[Vk]at hs
  have h1:Rel X β ρ (XS.flat { S with env:=Q1f S.env ts }) a w:=Rel.less (S:=S.flat) hS fun e he=>by
   rcases QZ.1 he with he | he
   ·exact List.mem_append_left _ (Qqg e he)
   ·exact List.mem_append_right _ he
  exact Uf hT hK hX hr g h1 hs (H.after ⟨rfl,rfl,rfl,agP.refl _ _ _⟩)
 | R,r,.op src id d g,l,rest,S,β,ρ,a,w,k,hS,hs,H=>by
  simp only[Vk]at hs;obtain⟨S1,β1,ρ1,h1,h2,hs⟩:=Jb4 hS hs;exact Uf hT hK hX hr g h2 hs (H.after h1)
 | R,r,.cl id g,l,rest,S,β,ρ,a,w,k,hS,hs,H=>by
  simp only[Vk]at hs;obtain⟨S1,ρ1,h1,h2,hs⟩:=Q3i hS hs;exact Uf hT hK hX hr g h2 hs (H.after h1)
 | R,r,.fm id g,l,rest,S,β,ρ,a,w,k,hS,hs,H=>by
  simp only[Vk]at hs;obtain⟨S1,h1,h2,hs⟩:=Jb6 hS hs;exact Uf hT hK hX hr g h2 hs (H.after h1)
 | R,r,.md m g,l,rest,S,β,ρ,a,w,k,hS,hs,H=>by simp[Vk]at hs
 | R,r,.tl g,l,rest,S,β,ρ,a,w,k,hS,hs,H=>by simp[Vk]at hs
 | R,r,.dt _ g,l,rest,S,β,ρ,a,w,k,hS,hs,H=>by simp[Vk]at hs
 | R,r,.si t i x y,l,rest,S,β,ρ,a,w,k,hS,hs,H=>by
  simp only[Vk]at hs;split at hs
  ·rename_i t' kd v he
   obtain⟨hf,hs⟩:=bvT hs;split at hs
   ·rename_i hv
    subst hv;have ht:t'=t:=(Kl he).2;subst ht;exact Uf hT hK hX hr x (Qyi hS he) hs (H.after ⟨rfl,rfl,rfl,agP.refl _ _ _⟩)
   ·exact Uf hT hK hX hr y hS hs H
  ·cases hs
 | R,r,.so t x y,l,rest,S,β,ρ,a,w,k,hS,hs,H=>by simp[Vk]at hs
 | R,r,.sp t m ks ms Γ x y g,l,rest,S,β,ρ,a,w,k,hS,hs,H=>by
  simp only[Vk]at hs;split at hs
  ·rename_i t' v he
   have ht':t'=t:=(Kl he).2;subst ht';obtain⟨hb,hs⟩:=bvT hs;obtain⟨z,hz,hs⟩:=Y0 hs;have hp:=Jln hS he
   have fin:KOk P ⟨ops⟩ Q (l.drop m++rest) X ((XS.put S t' [] (.d .bool v)).ent ks ms) β ρ (fun S'=>S'.dec Γ) z:=by
    intro β1 ρ1 S' a' w' hd hk h1;obtain⟨β2,ρ2,h2,h3⟩:=Qcx (S0:=(XS.put S t' [] (.d .bool v)).ent ks ms) h1 ⟨hk.fix,hk.fixM,hk.prot⟩ hd;rw[←Qjk]at h3;refine Uf hT hK hX hr g h3 hs (H.after ⟨rfl,rfl,rfl,?_⟩);exact agP.trans hk.ag h2
   have e:l++rest=l.take m++(l.drop m++rest):=by rw[←List.append_assoc,List.take_append_drop]
   rw[e];cases v with
   | true =>
    rw[if_pos rfl]at hz;exact Uf hT hK hX hr x (hp.ent ks ms) hz fin
   | false =>
    rw[if_neg (by simp)]at hz;exact Uf hT hK hX hr y (hp.ent ks ms) hz fin
  ·cases hs
theorem Qf6:∀{R:Type} {r:R} (h:Hn) {S:XS} {β:Nat→Nat} {ρ:Nat→Value} {k:XS→Option R},Rel X β ρ S.flat a w→Qcu h S k=some r→∃S' β' ρ',k S'=some r∧Vv S S' β β' ρ ρ'∧Rel X β' ρ' S'.flat a w
 | R,r,.done,S,β,ρ,k,hS,hs=>⟨S,β,ρ,hs,Vv.refl _ _ _,hS⟩
 | R,r,.fz id g,S,β,ρ,k,hS,hs=>by
  simp only[Qcu]at hs
  have h1:Rel X β ρ (XS.flat { S with mem:=Ud [id] S.mem }) a w:=by
   have:=Rel.freeze S.mem (l0:=[]) (F:=S.fixM) (ks:=[id]) hS;simp only[QE]at this;exact this
  obtain⟨S',β',ρ',q1,q2,q3⟩:=Qf6 g h1 hs;exact⟨S',β',ρ',q1,⟨q2.fix,q2.fixM,q2.prot,q2.ag⟩,q3⟩
 | R,r,.op src id d g,S,β,ρ,k,hS,hs=>by
  simp only[Qcu]at hs;obtain⟨S1,β1,ρ1,h1,h2,hs⟩:=Jb4 hS hs;obtain⟨S',β',ρ',q1,q2,q3⟩:=Qf6 g h2 hs;exact⟨S',β',ρ',q1,h1.trans q2,q3⟩
 | R,r,.cl id g,S,β,ρ,k,hS,hs=>by
  simp only[Qcu]at hs;obtain⟨S1,ρ1,h1,h2,hs⟩:=Q3i hS hs;obtain⟨S',β',ρ',q1,q2,q3⟩:=Qf6 g h2 hs;exact⟨S',β',ρ',q1,h1.trans q2,q3⟩
 | R,r,.fm id g,S,β,ρ,k,hS,hs=>by
  simp only[Qcu]at hs;obtain⟨S1,h1,h2,hs⟩:=Jb6 hS hs;obtain⟨S',β',ρ',q1,q2,q3⟩:=Qf6 g h2 hs;exact⟨S',β',ρ',q1,h1.trans q2,q3⟩
 | R,r,.n _ _,S,β,ρ,k,hS,hs=>by simp[Qcu]at hs
 | R,r,.nl _ _,S,β,ρ,k,hS,hs=>by simp[Qcu]at hs
 | R,r,.md _ _,S,β,ρ,k,hS,hs=>by simp[Qcu]at hs
 | R,r,.keep _ _,S,β,ρ,k,hS,hs=>by simp[Qcu]at hs
 | R,r,.sp _ _ _ _ _ _ _ _,S,β,ρ,k,hS,hs=>by simp[Qcu]at hs
 | R,r,.call _ _,S,β,ρ,k,hS,hs=>by simp[Qcu]at hs
 | R,r,.tl _,S,β,ρ,k,hS,hs=>by simp[Qcu]at hs
 | R,r,.dt id g,S,β,ρ,k,hS,hs=>by
  simp only[Qcu]at hs;split at hs
  ·rename_i tid c hm
   obtain⟨S',β',ρ',q1,q2,q3⟩:=Qf6 g (J76 hS hm) hs;exact⟨S',β',ρ',q1,⟨q2.fix,q2.fixM,q2.prot,q2.ag⟩,q3⟩
  ·cases hs
 | R,r,.so _ _ _,S,β,ρ,k,hS,hs=>by simp[Qcu]at hs
 | R,r,.si _ _ _ _,S,β,ρ,k,hS,hs=>by simp[Qcu]at hs
def TOk(P:Program)(ops:Array Oper)(Q:Act→Prop)(rest:List Oper)(X:Cx)(w:World)(S0:XS)(β:Nat→Nat)(ρ:Nat→Value){R:Type}(k:XS→Option R)(r:R):Prop :=
 ∀(β':Nat→Nat) (ρ':Nat→Value) (S':XS) (a':Act),k S'=some r→Vv S0 S' β β' ρ ρ'→Rel X β' ρ' S'.flat a' w→wpStill P ops w Q rest a'
theorem TOk.after{ops:Array Oper}{Q:Act→Prop}{rest:List Oper}{k:XS→Option R}(h:TOk P ops Q rest X w S β ρ k r){S1:XS}{β1:Nat→Nat}{ρ1:Nat→Value}(hk:Vv S S1 β β1 ρ ρ1):TOk P ops Q rest X w S1 β1 ρ1 k r :=
 fun β' ρ' S' a' h1 h2 h3=>h β' ρ' S' a' h1 (hk.trans h2) h3
section
variable {ops:List Oper} {Qs:Act→Prop} {rest:List Oper} {k:XS→Option R}
theorem Jcn{o:Oper}(hw:Region.wanted o (yielded ⟨ops⟩ a.tmps)=true){v:Value}(hr:(execOp a.eval o).run P w=.ok (.value v) w)(h:wpStill P ⟨ops⟩ w Qs rest (a.put o.dst v)):wpStill P ⟨ops⟩ w Qs (o::rest) a:=by
 simp_all [wpStill,if_pos,Oper.still,Oper.stillUpon_value]
theorem Qyj{o:Oper}(hw:Region.wanted o (yielded ⟨ops⟩ a.tmps)=false)(h:wpStill P ⟨ops⟩ w Qs rest (a.put o.dst undef)):wpStill P ⟨ops⟩ w Qs (o::rest) a:=by
 simp_all [wpStill,if_neg]
theorem Qyk(hT:Jg P Y.T)(hX:X.n=n)(hr:X.res=[])(h:Rel X β ρ S.flat a w){o:Oper}(hw:Region.wanted o (yielded ⟨ops⟩ a.tmps)=true)(hs:Jbz Y n o S k=some r)(H:TOk P ⟨ops⟩ Qs rest X w S β ρ k r):wpStill P ⟨ops⟩ w Qs (o::rest) a:=by
 unfold Jbz at hs;split at hs
 ·rename_i d hd
  obtain⟨hb,hs⟩:=bvT hs;obtain⟨av,hk,hsem⟩:=Jbu (P:=P) hT rfl hs;obtain⟨h1,h2⟩:=Ue hb hX hr;obtain⟨cs,h3,h4⟩:=hsem h.toW (Qi a);refine Jcn hw h3 ?_;rw[hd];refine H β ρ _ _ hk (F0 S d [] av) ?_;rw[Hb h2];exact h.put0 h1 h4
 ·cases hs
theorem Jco(hX:X.n=n)(hr:X.res=[])(h:Rel X β ρ S.flat a w){o:Oper}(hw:Region.wanted o (yielded ⟨ops⟩ a.tmps)=false)(hs:Qjg n o S k=some r)(H:TOk P ⟨ops⟩ Qs rest X w S β ρ k r):wpStill P ⟨ops⟩ w Qs (o::rest) a:=by
 refine Qyj hw ?_;unfold Qjg at hs;split at hs
 ·rename_i d hd
  obtain⟨hb,hk⟩:=bvT hs;obtain⟨h1,h2⟩:=Ue hb hX hr;rw[hd];refine H β ρ _ _ hk (F0 S d [] _) ?_;rw[Hb h2];exact h.put0 h1 (x:=.tp .nil) (c:=[.tuple #[]]) ⟨[],rfl,rfl⟩
 ·rename_i hd
  rw[hd];exact H β ρ _ _ hs (Vv.refl _ _ _) h
theorem Jp1(hT:Jg P Y.T)(hX:X.n=n)(hr:X.res=[])(h:Rel X β ρ S.flat a w){o:Oper}{t:Nat}{want:Bool}(hg:Qn4 ops o=some (some (t,want)))(hs:Qp3 Y n t want o S k=some r)(H:TOk P ⟨ops⟩ Qs rest X w S β ρ k r) :
  wpStill P ⟨ops⟩ w Qs (o::rest) a:=by
 unfold Qp3 at hs;split at hs
 ·rename_i t' cs b d he hd
  obtain⟨hb,hs⟩:=bvT hs;simp only[QQ]at hb;obtain⟨h1,h2⟩:=Ue hb.1.1 hX hr;have htd:=neB hb.1.2;have hud:∀c∈cs,c.1≠d:=Qi9 (by grind);split at hs
  ·rename_i v hv
   obtain⟨hm,ht'⟩:=Kl he;simp only at ht';subst ht'
   have hkeep:∀u:Value,J6 (a.put (some d) u) ((t',want)::cs)↔J6 a ((t',want)::cs):=by
    intro u
    have hne:∀c∈(t',want)::cs,c.1≠d:=by
     grind
    exact⟨fun hc c hm=>by rw[←Vy (hne c hm) u]; exact hc c hm,fun hc c hm=>by rw[Vy (hne c hm) u]; exact hc c hm⟩
   by_cases hw:Region.wanted o (yielded ⟨ops⟩ a.tmps)=true
   ·have htb:=(Uy hg).1 hw
    have hcs:J6 a cs:=by
     rcases(h.en hm).2 with h3 | h3
     ·exact h3
     grind [Qbx,Qi7,undef]
    have hcur:J6 a ((t',want)::cs):=by
     intro c hc;rcases QX.1 hc with rfl | hc
     ·exact htb
     ·exact hcs c hc
    obtain⟨c,h3,h4⟩:=Qp0 hT h.toW hcur hv;refine Jcn hw h3 ?_;rw[hd];refine H β ρ _ _ hs (F0 S d _ _) ?_;rw[Hb h2];exact h.put h1 (fun _=>⟨c,rfl,h4⟩) (.inl ((hkeep _).2 hcur))
   ·have hw':Region.wanted o (yielded ⟨ops⟩ a.tmps)=false:=by simpa using hw
    refine Qyj hw' ?_;rw[hd];refine H β ρ _ _ hs (F0 S d _ _) ?_;rw[Hb h2];refine h.put h1 (fun hc=>?_) (.inr rfl);have:=(hkeep _).1 hc;exact absurd ((Uy hg).2 (this _ (.head _))) hw
  ·cases hs
 ·cases hs
theorem Jp2(hT:Jg P Y.T)(hX:X.n=n)(hr:X.res=[])(h:Rel X β ρ S.flat a w){o:Oper}(hs:Q6z Y n ops o S k=some r)(H:TOk P ⟨ops⟩ Qs rest X w S β ρ k r):wpStill P ⟨ops⟩ w Qs (o::rest) a:=by
 grind [Q6z,Qyk,Ep,Tj,Jp1]
theorem Jp3(hT:Jg P Y.T)(hX:X.n=n)(hr:X.res=[])(h:Rel X β ρ S.flat a w){o:Oper}(hs:Q60 Y n ops o S k=some r)(H:TOk P ⟨ops⟩ Qs rest X w S β ρ k r):wpStill P ⟨ops⟩ w Qs (o::rest) a:=by
 unfold Q60 at hs;split at hs
 ·grind [Qyk,Ep,Tj]
 ·rename_i t want hg
  split at hs
  ·rename_i t' b he
   obtain⟨cs,h1,h2⟩:=h.get he (Qi a);have h2':cs=_:=h2;subst h2';have h1':a.tmps[t]?=some (.bool b):=h1;split at hs
   ·grind [Qyk,Uy]
   ·rename_i hb
    refine Jco hX hr h ?_ hs H;have hne:b≠want:=by simpa using hb
    cases hw:Region.wanted o (yielded ⟨ops⟩ a.tmps)with
    | false=>rfl
    | true =>
     have:=(Uy hg).1 hw;rw[h1']at this;grind
  ·rename_i t' he
   obtain⟨cs,h1,vs,h2,h3⟩:=h.get he (Qi a);subst h2;refine Jco hX hr h ?_ hs H;cases hw:Region.wanted o (yielded ⟨ops⟩ a.tmps)with
   | false=>rfl
   | true =>
    have:=(Uy hg).1 hw;rw[h1]at this;injection this with this
    cases this
  ·cases hs
 ·cases hs
theorem Qyl(st:Oper→XS→(XS→Option R)→Option R)
  (hst:∀{o:Oper} {rest:List Oper} {S:XS} {β:Nat→Nat} {ρ:Nat→Value} {a:Act} {k:XS→Option R},Rel X β ρ S.flat a w→st o S k=some r→TOk P ⟨ops⟩ Qs rest X w S β ρ k r→wpStill P ⟨ops⟩ w Qs (o::rest) a) :
  ∀{l1 rest:List Oper} {S:XS} {β:Nat→Nat} {ρ:Nat→Value} {a:Act} {k:XS→Option R},Rel X β ρ S.flat a w→Qu2 st l1 S k=some r→TOk P ⟨ops⟩ Qs rest X w S β ρ k r→wpStill P ⟨ops⟩ w Qs (l1++rest) a
 | [],rest,S,β,ρ,a,k,h,hs,H=>H β ρ S a hs (Vv.refl _ _ _) h
 | o::l1,rest,S,β,ρ,a,k,h,hs,H=>by
  simp only[Qu2]at hs;refine hst (rest:=l1++rest) h hs fun β' ρ' S' a' hk hkeep h'=>?_;exact Qyl st hst h' hk (H.after hkeep)
end
theorem Qf7(hT:Jg P Y.T)(hX:X.n=n)(hr:X.res=[]){ops:List Oper}{Qs:Act→Prop}:∀{R:Type} {r:R} (h:Hn) {l rest:List Oper} {S:XS} {β:Nat→Nat} {ρ:Nat→Value} {a:Act} {k:XS→Option R},
  Rel X β ρ S.flat a w→T0 Y n ops h l S k=some r→TOk P ⟨ops⟩ Qs rest X w S β ρ k r→wpStill P ⟨ops⟩ w Qs (l++rest) a
 | R,r,.done,l,rest,S,β,ρ,a,k,hS,hs,H=>by
  cases l with
  | nil=>exact H β ρ S a (by grind [T0]) (Vv.refl _ _ _) hS
  | cons o l=>simp[T0]at hs
 | R,r,.n m g,l,rest,S,β,ρ,a,k,hS,hs,H=>by
  simp only[T0]at hs;have:=Qyl (P:=P) (X:=X) (w:=w) (r:=r) (Q6z Y n ops) (fun h1 h2 h3=>Jp2 hT hX hr h1 h2 h3) (l1:=l.take m) (rest:=l.drop m++rest) hS hs fun β' ρ' S' a' h1 h2 h3=>Qf7 hT hX hr g h3 h1 (H.after h2)
  rwa[←List.append_assoc,List.take_append_drop]at this
 | R,r,.nl m g,l,rest,S,β,ρ,a,k,hS,hs,H=>by
  simp only[T0]at hs;have:=Qyl (P:=P) (X:=X) (w:=w) (r:=r) (Q60 Y n ops) (fun h1 h2 h3=>Jp3 hT hX hr h1 h2 h3) (l1:=l.take m) (rest:=l.drop m++rest) hS hs fun β' ρ' S' a' h1 h2 h3=>Qf7 hT hX hr g h3 h1 (H.after h2)
  rwa[←List.append_assoc,List.take_append_drop]at this
 | R,r,.call c g,l,rest,S,β,ρ,a,k,hS,hs,H=>by simp[T0]at hs
 | R,r,.fz id g,l,rest,S,β,ρ,a,k,hS,hs,H=>by simp[T0]at hs
 | R,r,.keep ts g,l,rest,S,β,ρ,a,k,hS,hs,H=>by simp[T0]at hs
 | R,r,.md m g,l,rest,S,β,ρ,a,k,hS,hs,H=>by simp[T0]at hs
 | R,r,.cl _ _,l,rest,S,β,ρ,a,k,hS,hs,H=>by simp[T0]at hs
 | R,r,.op _ _ _ _,l,rest,S,β,ρ,a,k,hS,hs,H=>by simp[T0]at hs
 | R,r,.fm _ _,l,rest,S,β,ρ,a,k,hS,hs,H=>by simp[T0]at hs
 | R,r,.tl g,l,rest,S,β,ρ,a,k,hS,hs,H=>by simp[T0]at hs
 | R,r,.dt _ g,l,rest,S,β,ρ,a,k,hS,hs,H=>by simp[T0]at hs
 | R,r,.si _ _ _ _,l,rest,S,β,ρ,a,k,hS,hs,H=>by simp[T0]at hs
 | R,r,.so t x y,l,rest,S,β,ρ,a,k,hS,hs,H=>by simp[T0]at hs
 | R,r,.sp t m ks ms Γ x y g,l,rest,S,β,ρ,a,k,hS,hs,H=>by
  simp only[T0]at hs;split at hs
  ·rename_i t' v he
   have ht':t'=t:=(Kl he).2;subst ht';obtain⟨hb,hs⟩:=bvT hs;obtain⟨z,hz,hs⟩:=Y0 hs;have hp:=Jln hS he
   have fin:TOk P ⟨ops⟩ Qs (l.drop m++rest) X w ((XS.put S t' [] (.d .bool v)).ent ks ms) β ρ (fun S'=>S'.dec Γ) z:=by
    intro β1 ρ1 S' a' hd hk h1;obtain⟨β2,ρ2,h2,h3⟩:=Qcx (S0:=(XS.put S t' [] (.d .bool v)).ent ks ms) h1 ⟨hk.fix,hk.fixM,hk.prot⟩ hd;rw[←Qjk]at h3;refine Qf7 hT hX hr g h3 hs (H.after ⟨rfl,rfl,rfl,?_⟩);exact agP.trans hk.ag h2
   have e:l++rest=l.take m++(l.drop m++rest):=by rw[←List.append_assoc,List.take_append_drop]
   rw[e];cases v with
   | true =>
    rw[if_pos rfl]at hz;exact Qf7 hT hX hr x (hp.ent ks ms) hz fin
   | false =>
    rw[if_neg (by simp)]at hz;exact Qf7 hT hX hr y (hp.ent ks ms) hz fin
  ·cases hs
theorem Rel.drew(h:Rel X β ρ S.flat a w):Rel X β ρ S.flat a { w with drawn:=w.drawn+1 }:=Sb.below h ((Below.refl _ _).drew)
end
end Gx
