/- Functions with a range over a function. -/
import Derived.Test.YtjjpjagokgfbdaaGreatXMq
import Derived.RangeFuncLeaves
import Derived.Test.YtjjpjagokgfbdaaGreatGRows
import Derived.Lib.ItoaNum
import Derived.Lib.LaidTab
import Derived.Lib.AppendIntMem
import Derived.Lib.Bytealg
import Derived.Lib.SlTrimSet
import Derived.Lib.Walk
import Derived.Lib.SlKeysI
import Derived.Maps.Views
import Derived.Sort.AssemblyPlain
import Derived.Lib.SlicesCompact
import Derived.Shelf.SlSortCmp.WholeK
import Derived.Shelf.SlSortCmp.NoneTotal
import Derived.Shelf.SortM.Plain
import Derived.Shelf.Slices.CompactI
import Derived.Shelf.SlicesE.DeleteFunc
namespace Gx
open Go Go.RowKit Gd
set_option linter.unusedVariables false
set_option linter.unusedSimpArgs false
section
variable {P:Program} {Y:TX} {X:Cx} {n N:Nat} {K:List Con}
def Q8z(X:Cx)(D:Nat):Cx:={ X with dfs:=[⟨.collected D,#[]⟩] }
theorem Qox(hT:Q4 P Y.T)(ze:P.follows .mixedOrders=true)(hK:KsX P Y X K)(hX:X.n=n)(hr:X.res=[])(kz:X.pin=none)(lr:X.dfs=[]){its:List It}(qj:∀it∈its,Jb8 P Y.gl it∧Runs P it.f){m:Nat} :
  ∀{R:Type} {r:R} (an:AnR) {c:Code} {S:XS} {β:Nat→Nat} {ρ:Nat→Value} {a:Act} {w:World} {k:Ex→XS→Option R} {Q:Exit→Act→World→Prop},
  Rel X β ρ S.flat a w→Qgu Y K n N its an c S k=some r →
  (∀(D:Nat) (e:Ex) (β':Nat→Nat) (ρ':Nat→Value) (S':XS) (a':Act) (w':World),k e S'=some r→Y6 S S' β β' ρ ρ'→Rel (Q8z X D) β' ρ' S'.flat a' w'→w'.heap[D]?=some (.deferred (some []))→X.w.heap.size≤D→Q e.exit a' w')→c.wpIn Fence.wide m P Q a w
 | R,r,.pre an rn,c,S,β,ρ,a,w,k,Q,h,hs,H=>by
  cases c<;>simp only[Qgu]at hs<;>first | (cases hs; done) | skip
  rename_i x y
  refine wpIn_seq (wpIn_wide.2 (Z0 hT ze hK hX hr kz an h hs fun e β' ρ' S' a' w' h1 h2 h3=>?_))
  cases e with
  | n=>exact Qox hT ze hK hX hr kz lr qj rn h3 h1 fun D e β2 ρ2 S2 a2 w2 q1 q2 q3 q4 q5=>H D e β2 ρ2 S2 a2 w2 q1 (h2.trans q2) q3 q4 q5
  | x i=>cases h1
  | r=>cases h1
 | R,r,.inn rn an,c,S,β,ρ,a,w,k,Q,h,hs,H=>by
  cases c<;>simp only[Qgu]at hs<;>first | (cases hs; done) | skip
  rename_i x y
  refine wpIn_seq (Qox hT ze hK hX hr kz lr qj rn h hs fun D e β' ρ' S' a' w' h1 h2 h3 h4 h5=>?_)
  cases e with
  | x i=>cases h1
  | r=>cases h1
  | n =>
   obtain⟨hV,h1⟩:=bvT h1
   have hG1:Vs Y.gl (okN (Q8z X D)) (Q8z X D).w:=hK.2
   obtain⟨hR2,hG2⟩:=Qxt hG1 h3 hV
   have pj:D∉Xt w'.heap.size (Qg β' ρ' S'.flat.mem):=fun hm=>by
    obtain⟨_,t,ht,vu⟩:=Zr.1 hm
    exact h3.notOwn h4 rfl (fun _ _=>by simp) t ht vu
   show y.wpIn Fence.wide m P Q a' w'
   refine wpIn_wide.2 (Z0 (X:=reX (Q8z X D) β' ρ' S'.flat.mem w') hT ze ⟨hK.1,hG2⟩ hX rfl rfl an hR2 h1 fun e β2 ρ2 S2 a2 w2 q1 q2 q3=>?_)
   exact H D e β2 ρ2 S2 a2 w2 q1 (h2.trans q2) (Qxu h3 hV hr kz q3) ((q3.bel.block D (Yi h4) pj).trans h4) h5
 | R,r,.un rn,c,S,β,ρ,a,w,k,Q,h,hs,H=>by
  cases c<;>simp only[Qgu]at hs<;>first | (cases hs; done) | skip
  rename_i id c1
  refine wpIn_block (Qox hT ze hK hX hr kz lr qj rn h hs fun D e β' ρ' S' a' w' h1 h2 h3 h4 h5=>?_)
  cases e with
  | x i=>cases h1
  | r=>cases h1
  | n=>exact H D .n β' ρ' S' a' w' h1 h2 h3 h4 h5
 | R,r,.rf i ks ms Γ aA aB,c,S,β,ρ,a,w,k,Q,h,hs,H=>by
  cases c<;>first | (simp only[Qgu]at hs; cases hs; done) | skip
  rename_i g ps A B
  obtain⟨ps⟩:=ps
  match g,ps,hs with
  | .tmp g,[p],hs =>
   simp only[Qgu]at hs
   split at hs
   ·rename_i it gf caps e9 hg
    split at hs
    ·rename_i bl xy
     split at hs
     ·rename_i x hx
      obtain⟨hb,yw⟩:=bvT hs
      simp only[QQ]at hb
      obtain⟨⟨⟨⟨⟨⟨b1,b2,b3⟩,b4⟩,b5⟩,b6⟩,b8⟩,b7⟩:=hb
      have hfe:=QJ b1
      subst hfe
      obtain⟨es,xe,hs3⟩:=Yk yw
      split at hs3
      ·rename_i s0 z6
       obtain⟨sE,xx,hk⟩:=Yk hs3
       have hΓ:Γ.env=[]:=by
        cases hE:Γ.env with
        | nil=>rfl
        | cons q l=>rw[hE]at b5; cases b5
       obtain⟨ig,ij⟩:=qj it (JM e9)
       exact Jq3 hT ze hK hX hr kz lr ig ij h hg xy hx b2 b3 (fun d hd=>JN.1 b4 d hd) hΓ b6 b7 b8 xe z6 xx fun β' ρ' w' D q1 q2 q3 q4=>H D .n β' ρ' _ _ w' hk ⟨rfl,rfl,rfl,q1⟩ q2 q3 q4
      ·cases hs3
     ·cases hs
    ·cases hs
   ·cases hs
  | .tmp g,[],hs=>simp[Qgu]at hs
  | .tmp g,_::_::_,hs=>simp[Qgu]at hs
  | .const _,_,hs=>simp[Qgu]at hs
  | .global _,_,hs=>simp[Qgu]at hs
  | .func _,_,hs=>simp[Qgu]at hs
noncomputable def Jgt(Y:TX)(K:List Con)(N:Nat)(its:List It)(fn:Func)(an:AnR)(ro:List Nat)(Γ:Shp)(Δ:List Shp)(x:Γ.De):Option (Qb5 Δ):=match fn.body with
 | some c=>bif Nat.ble Γ.env.length fn.ntmps&&(Ie Γ.env 0&&Nat.blt Γ.env.length 100000)then Qgu Y K fn.ntmps N its an c ⟨(enc Γ x).env,Qin Y.gl,wrM ro (enc Γ x).mem,rdM ro (enc Γ x).mem,Γ.mem.map Prod.fst⟩ fun e S=>match e with
  | .x _=>none
  | .n=>fin Y fn Δ S
  | .r=>fin Y fn Δ S else none
 | none=>none
theorem Jb9{f:FuncId}{fn:Func}{c:Code}{vs:List Value}{R:Value→World→Prop}{ok:Ok}{n m:Nat}{L:List Nat}{O:List TL}{w:World}(kj:∀b o,ok b o→b<w.heap.size)
  (hf:P.funcs[f]?=some fn) (hb:fn.body=some c) (hn:fn.ntmps=n) (hle:Nat.ble vs.length n=true) (hO:Ql2 O L ok w)
  (h:∀a,Sb (fun _=>0) (cxL L n ok w) (Qz0 vs 0) [] [] O a w→c.wpIn Fence.wide m P (bodyPostM Fence.wide m P fn (Qws L w R)) a w):Calls P f ⟨vs⟩ w (Qws L w R):=by
 refine callsIn_wide.1 (callsIn_of_wp_marks (n:=m) hf hb trivial (h _ ?_))
 have hle':=QF hle
 have hk:∀b o,ok b o→Jf (okL L ok) w.heap.size (fun _=>0) [] O w b o:=fun b o kn=>⟨.inl (.inl kn),kj b o kn,by simp,fun t ht hc=>(hO.1 t ht).2.2 b o (t.cb hc) kn⟩
 refine { sz:=by simp[hn]; omega,df:=rfl,fr:=by simp,pn:=by simp,tm:=?_,bel:=Ud.refl _ _ _,dat:=trivial,obj:=by simp,own:=fun t ht=>⟨t.weak (hO.1 t ht).1 hk,fun g hg=>.inr ((hO.1 t ht).2.1 g hg)⟩,dHH:=by simp,dHO:=by simp,dOO:=hO.2.1 }
 intro p hp
 obtain⟨j,v,rfl,hv⟩:=Qz1 hp
 have hj:=(QK.1 hv).1
 simp only[QE,Is]
 rw[XM (by simpa using hj)]
 simpa using hv
theorem Jgu(hT:Q4 P Y.T)(ze:P.follows .mixedOrders=true)(hK:Q1l P Y.gl K){its:List It}(qj:∀it∈its,Jb8 P Y.gl it∧Runs P it.f){f:FuncId}{fn:Func}(hf:P.funcs[f]?=some fn){an:AnR}{c:Con}(lj:c.f=f)(ka:∀x,c.fn x=Jgt Y K N its fn an c.ro c.Γ c.Δ x):Qfy P Y.gl c:=by
 intro ok w L β ρ x y vs kj hG hlen hL zx hy
 rw[ka]at hy
 unfold Jgt at hy
 split at hy
 ·rename_i code hb
  obtain⟨hc,hy⟩:=bvT hy
  simp only[QQ]at hc
  rw[lj]
  refine Jb9 (n:=fn.ntmps) (m:=1) (L:=L) (O:=Qg β ρ (enc c.Γ x).mem) kj hf hb rfl (by rw[hlen]; exact hc.1) hL fun a h0=>?_
  have hR:=Q8v (Y:=Y) (fn:=fn) hc.2.1 hc.2.2 kj hG hL zx h0
  have hGX:Vs Y.gl (okN (cxL L fn.ntmps ok w)) w:=hG.weak fun b o kn=>⟨.inl kn,fun xy=>hL.2.2 b xy |>.elim fun t ht=>(hL.1 t ht.1).2.2 b o ht.2 kn,kj b o kn⟩
  refine Qox (X:=cxL L fn.ntmps ok w) hT ze ⟨hK,hGX⟩ rfl rfl rfl rfl qj an hR hy fun D e β' ρ' S' a' w' h1 h2 h3 h4 h5=>?_
  have h6:=(h3.turn (o':=.deferred none) (show(cxL L fn.ntmps ok w).w.heap.size≤D from h5) h4 rfl (fun _ _=>by simp) rfl).withD []
  have h7:Rel (cxL L fn.ntmps ok w) β' ρ' S'.flat { a' with defers:=[] } (w'.putObj D (.deferred none)):=h6
  have key:=Q8x (Y:=Y) (y:=y) hT h2 h7
  have lr:a'.defers=[⟨.collected D,#[]⟩]:=h3.df
  have fin2:fin Y fn c.Δ S'=some y→LeavesInM Fence.wide 1 P fn a'.tmps (Qws L w (Q1d c β ρ ok L w x y)) a'.defers .returning w':=fun yn=>by
   obtain⟨_,v,vb,v2,ux,hpost⟩:=key yn
   rw[lr]
   refine⟨by simp,.inl ⟨D,_,rfl,run_takeDeferred h4,?_⟩⟩
   exact⟨v,vb,v2,ux,hpost⟩
  cases e with
  | n=>exact fin2 h1
  | x i=>cases h1
  | r=>exact fin2 h1
 ·cases hy
end
end Gx

/- Iterators: functions that call yield. -/
namespace Gx
open Go Go.RowKit Gd
set_option linter.unusedVariables false
set_option linter.unusedSimpArgs false
inductive HnY where
 | done
 | h (m:Nat) (hn:Hn) (r:HnY)
 | mv (r:HnY)
 | yl (r:HnY)
 | so (t:Nat) (a b:HnY)
inductive AnY where
 | nil
 | reg (h:Hn)
 | yr (h:HnY)
 | two (a b:AnY)
 | un (a:AnY)
 | lp (ks ms:List Nat) (Γ:Shp) (exs:Exs) (a:AnY)
section
variable (Y:TX) (K:List Con) (n N:Nat) (u:Ty)
def gOk(ops:List Oper)(o:Oper)(S:XS):Bool:=match Qgm ops o with
 | some none=>true
 | some (some (t,want))=>match Kl S.flat.env t with
  | some ⟨_,[],.d .bool b⟩=>b==want
  | _=>false
 | none=>false
def A8{R:Type}(ops:List Oper):HnY→List Oper→List Nat→XS→List u.De→(XS→List u.De→Option R)→Option R
 | .done,l,ys,S,acc,k=>match l with
  | []=>k S acc
  | _::_=>none
 | .h m hn r,l,ys,S,acc,k=>bif T9 (l.take m)&&Qbe (K7 (l.take m)) ys then Yx Y K n ops hn (l.take m) S fun S'=>A8 ops r (l.drop m) ys S' acc k else none
 | .mv r,l,ys,S,acc,k=>match l with
  | o::l'=>match o.op,o.dst with
   | .move (.tmp t),some d=>bif Yb ys t&&okW n S d&&gOk ops o S then A8 ops r l' (d::ys) { S with env:=Js S.env d } acc k else none
   | _,_=>none
  | []=>none
 | .yl r,l,ys,S,acc,k=>match l with
  | o::l'=>match o.op,o.dst with
   | .call ⟨.value (.tmp t),⟨[x]⟩,_⟩,some d=>match S.ev [] x with
    | some v=>match asD [] v u with
     | some y=>bif Yb ys t&&okW n S d&&gOk ops o S&&!Yb ys d&&(u.agg==v.isAgg)&&Jfw S.fixM then A8 ops r l' ys (XS.put { S with mem:=[] } d [] (.d .bool true)) (acc++[y]) k else none
     | none=>none
    | none=>none
   | _,_=>none
  | []=>none
 | .so t a b,l,ys,S,acc,k=>match Kl S.env t with
  | some ⟨_,[],.d .bool v⟩=>bif Nw t S.fix then(if v=true then A8 ops a l ys (S.put t [] (.d .bool true)) acc k else A8 ops b l ys (S.put t [] (.d .bool false)) acc k)else none
  | _=>none
def F5{R:Type}:AnY→Code→XS→List u.De→(Ex→XS→List u.De→Option R)→Option R
 | .nil,.skip,S,acc,k=>k .n S acc
 | .nil,.ret,S,acc,k=>k .r S acc
 | .nil,.exit id,S,acc,k=>k (.x id) S acc
 | .reg h,.region _ ⟨ops⟩ false,S,acc,k=>bif T9 ops&&Qbe (K7 ops) [0]then Yx Y K n ops h ops S fun S'=>k .n S' acc else none
 | .yr h,.region _ ⟨ops⟩ false,S,acc,k=>bif Qbe (K7 ops) [0]then A8 Y K n u ops h ops [0] S acc (k .n)else none
 | .two a b,.seq x y,S,acc,k=>F5 a x S acc fun e S' acc'=>match e with
  | .n=>F5 b y S' acc' k
  | .x i=>k (.x i) S' acc'
  | .r=>k .r S' acc'
 | .two a b,.cond c x y,S,acc,k=>match S.ev [] c with
  | some (.d .bool v)=>if v=true then F5 a x S acc k else F5 b y S acc k
  | _=>none
 | .un a,.block id c,S,acc,k=>F5 a c S acc fun e S' acc'=>match e with
  | .n=>k .n S' acc'
  | .x i=>bif Nat.beq i id then k .n S' acc' else k (.x i) S' acc'
  | .r=>k .r S' acc'
 | .lp ks ms Γ exs a,.loop c,S,acc,k=>match (S.ent ks ms).dec Γ with
  | some s0=>(Qf (fun(q:Γ.De×List u.De)=>F5 (R:=(Γ.De×List u.De)⊕(Qb4 exs×List u.De)) a c ((S.ent ks ms).re (enc Γ q.1)) q.2 fun e S' acc'=>match e with
    | .n=>(match S'.dec Γ with
     | some s'=>some (.inl (s',acc'))
     | none=>none)
    | .x i=>(match inj exs (.x i) S' with
     | some x=>some (.inr (x,acc'))
     | none=>none)
    | .r=>(match inj exs .r S' with
     | some x=>some (.inr (x,acc'))
     | none=>none)) N (s0,acc)).bind fun z=>Q0s S ks ms (fun e S'=>k e S' z.2) exs z.1
  | none=>none
 | _,_,_,_,_=>none
end
theorem Qaa:∀(l m:List Oper),K7 (l++m)=K7 l++K7 m
 | [],m=>rfl
 | o::l,m=>by
  simp only[QA,K7,Qaa l m]
  split<;>rfl
theorem Qq8{l m:List Nat}(h:Qbe l m=true){t:Nat}(hl:t∈l)(hm:t∈m):False:=by
 have:=JN.1 h t hl
 rw[Qeu hm]at this; cases this
theorem Q11{l:List Nat}{t:Nat}:Yb l t=true→t∈l:=Qiq
section
variable {P:Program} {Y:TX} {n N:Nat} {K:List Con} {u:Ty} {es:List u.De}
theorem Qq9{X:Cx}{β:Nat→Nat}{ρ:Nat→Value}{S:XS}{a:Act}{w:World}{ops:List Oper}{o:Oper}(h:Rel X β ρ S.flat a w)(hg:gOk ops o S=true):Region.wanted o (yielded ⟨ops⟩ a.tmps)=true:=by
 unfold gOk at hg
 split at hg
 ·rename_i qk
  refine K6 ?_ _
  unfold Qgm at qk
  split at qk
  ·rename_i hgd; exact hgd
  ·split at qk
   ·split at qk<;>cases qk
   ·cases qk
 ·rename_i t want qk
  split at hg
  ·rename_i t' b he
   rw[Vv qk]
   obtain⟨cs,h1,h2⟩:=h.get he (Qc a)
   have zj:cs=_:=h2
   subst zj
   rw[bEq hg]at h1
   exact h1
  ·cases hg
 ·cases hg
theorem Ce{R:Type}{r:R}{ops:List Oper}:∀(hn:HnY) {l:List Oper} {ys:List Nat} {S:XS} {acc:List u.De} {k:XS→List u.De→Option R},A8 Y K n u ops hn l ys S acc k=some r→(∀S' acc',k S' acc'=some r→acc' <+: es)→acc <+: es
 | .done,l,ys,S,acc,k,h,hk=>by
  unfold A8 at h
  split at h
  ·exact hk _ _ h
  ·cases h
 | .h m hn rr,l,ys,S,acc,k,h,hk=>by
  unfold A8 at h
  obtain⟨_,h⟩:=bvT h
  obtain⟨S1,h1,_⟩:=Qqe h
  exact Ce rr h1 hk
 | .mv rr,l,ys,S,acc,k,h,hk=>by
  unfold A8 at h
  split at h
  ·split at h
   ·obtain⟨_,h⟩:=bvT h
    exact Ce rr h hk
   ·cases h
  ·cases h
 | .yl rr,l,ys,S,acc,k,h,hk=>by
  unfold A8 at h
  split at h
  ·split at h
   ·split at h
    ·split at h
     ·obtain⟨_,h⟩:=bvT h
      exact(List.prefix_append _ _).trans (Ce rr h hk)
     ·cases h
    ·cases h
   ·cases h
  ·cases h
 | .so t a b,l,ys,S,acc,k,h,hk=>by
  unfold A8 at h
  split at h
  ·obtain⟨_,h⟩:=bvT h
   split at h
   ·exact Ce a h hk
   ·exact Ce b h hk
  ·cases h
theorem Qra{R:Type}{S:XS}{ks ms:List Nat}{k:Ex→XS→Option R}{r:R}:∀{l:Exs} {x:Qb4 l},Q0s S ks ms k l x=some r→∃e S',k e S'=some r
 | [],x,_=>nomatch x
 | [q],x,h=>⟨_,_,h⟩
 | q::q2::l,x,h=>by
  simp only[Q0s]at h
  split at h
  ·exact⟨_,_,h⟩
  ·exact Qra h
theorem Db:∀{R:Type} {r:R} (an:AnY) {c:Code} {S:XS} {acc:List u.De} {k:Ex→XS→List u.De→Option R},F5 Y K n N u an c S acc k=some r→(∀e S' acc',k e S' acc'=some r→acc' <+: es)→acc <+: es
 | R,r,.nil,c,S,acc,k,h,hk=>by
  cases c<;>simp only[F5]at h<;>first | (cases h; done) | exact hk _ _ _ h
 | R,r,.reg hn,c,S,acc,k,h,hk=>by
  cases c with
  | region id ops draw =>
   obtain⟨ops⟩:=ops
   cases draw with
   | true=>simp[F5]at h
   | false =>
    simp only[F5]at h
    obtain⟨_,h⟩:=bvT h
    obtain⟨S1,h1,_⟩:=Qqe h
    exact hk _ _ _ h1
  | _=>simp[F5]at h
 | R,r,.yr hn,c,S,acc,k,h,hk=>by
  cases c with
  | region id ops draw =>
   obtain⟨ops⟩:=ops
   cases draw with
   | true=>simp[F5]at h
   | false =>
    simp only[F5]at h
    obtain⟨_,h⟩:=bvT h
    exact Ce hn h fun S' acc' h'=>hk _ _ _ h'
  | _=>simp[F5]at h
 | R,r,.two a b,c,S,acc,k,h,hk=>by
  cases c<;>simp only[F5]at h<;>first | (cases h; done) | skip
  ·refine Db a h fun e S' acc' h'=>?_
   cases e with
   | n=>exact Db b h' hk
   | x i=>exact hk _ _ _ h'
   | r=>exact hk _ _ _ h'
  ·split at h
   ·split at h
    ·exact Db a h hk
    ·exact Db b h hk
   ·cases h
 | R,r,.un a,c,S,acc,k,h,hk=>by
  cases c<;>simp only[F5]at h<;>first | (cases h; done) | skip
  rename_i id c1
  refine Db a h fun e S' acc' h'=>?_
  cases e with
  | n=>exact hk _ _ _ h'
  | x i =>
   simp only at h'
   cases hb:Nat.beq i id with
   | true=>rw[hb]at h'; exact hk _ _ _ h'
   | false=>rw[hb]at h'; exact hk _ _ _ h'
  | r=>exact hk _ _ _ h'
 | R,r,.lp ks ms Γ exs a,c,S,acc,k,h,hk=>by
  cases c<;>simp only[F5]at h<;>first | (cases h; done) | skip
  rename_i c1
  split at h
  ·rename_i s0 z6
   obtain⟨z,hz,ho⟩:=Yk h
   obtain⟨e0,S0,ql⟩:=Qra ho
   have hzp:z.2 <+: es:=hk _ _ _ ql
   obtain⟨f,hz,hf⟩:∃f,Qf f N (s0,acc)=some z∧f=_:=⟨_,hz,rfl⟩
   have main:∀(m:Nat) (q:Γ.De×List u.De),Qf f m q=some z→q.2 <+: es:=by
    intro m
    induction m with
    | zero=>intro q hq; simp[Qf]at hq
    | succ m ih =>
     intro q hq
     simp only[Qf]at hq
     obtain⟨x,hx,hq⟩:=Yk hq
     rw[hf]at hx
     refine Db a hx fun e S' acc' h'=>?_
     have fin:(∃s',some (Sum.inl (s',acc'))=some x)∨(∃y,some (Sum.inr (y,acc'))=some x)→acc' <+: es:=by
      rintro(⟨s',e1⟩ | ⟨y,e1⟩)
      ·injection e1 with e1; subst e1; exact ih _ hq
      ·injection e1 with e1; subst e1
       injection hq with hq; subst hq; exact hzp
     cases e with
     | n =>
      simp only at h'
      split at h'
      ·exact fin (.inl ⟨_,h'⟩)
      ·cases h'
     | x i =>
      simp only at h'
      split at h'
      ·exact fin (.inr ⟨_,h'⟩)
      ·cases h'
     | r =>
      simp only at h'
      split at h'
      ·exact fin (.inr ⟨_,h'⟩)
      ·cases h'
   exact main N (s0,acc) hz
  ·cases h
structure YCx(P:Program)(Y:TX)(K:List Con)(n:Nat)(ok:Ok)(w0:World)(bs:List Nat)(X:Cx)(O:Nat→Prop):Prop where
 hX:X.n=n
 hr:X.res=[]
 hp:X.pin=none
 hd:X.dfs=[]
 hl:X.lent=[]
 hK:KsX P Y X K
 hO:∀b,O b→b<X.w.heap.size∧∀o,¬ X.ok b o
 hC:∀b o,X.ok b o→ok b o∨w0.heap.size≤b∨b∈bs
 hW:w0.heap.size≤X.w.heap.size
theorem Qu5{X:Cx}{β:Nat→Nat}{ρ:Nat→Value}{S:St}{a:Act}{w:World}(h:Rel X β ρ S a w)(hl:X.lent=[]):Below X.w.heap.size X.w w:=by
 have:=h.bel
 rw[hl]at this
 exact this.nil
def reY(X:Cx)(β:Nat→Nat)(ρ:Nat→Value)(M:List (Nat×Ob))(A B:World):Cx:=⟨X.n,okR X β ρ M A,B,[],⟨#[],[]⟩,none,[],by simp,X.dfs⟩
theorem Jpo{ok:Ok}{w0:World}{bs:List Nat}{X:Cx}{O O':Nat→Prop}(hC:YCx P Y K n ok w0 bs X O){β:Nat→Nat}{ρ:Nat→Value}{S:St}{a:Act}{A B:World}(h:Rel X β ρ S a A)
    (hO':∀b,O' b→O b∨A.heap.size≤b) (hOB:∀b,O' b→b<B.heap.size) (ko:A.heap.size≤B.heap.size) (zn:∀b,b<A.heap.size→¬ O b→B.heap[b]?=A.heap[b]?) :
    YCx P Y K n ok w0 bs (reY X β ρ S.mem A B) O'∧Rel (reY X β ρ S.mem A B) β ρ ⟨S.env,[]⟩ a B:=by
  have qf:∀b o,okR X β ρ S.mem A b o→¬ O b:=fun b o kn hOb=>by
    obtain⟨q1,q2⟩:=hC.hO b hOb
    rcases kn.1 with q | q
    · exact q2 o q
    · omega
  have yx:Evo (okR X β ρ S.mem A) A B:=Evo.of_blocks ko fun b o kn=>zn b kn.2.1 (qf b o kn)
  have hk:∀b o,okR X β ρ S.mem A b o→Jf (okR X β ρ S.mem A) B.heap.size (fun _=>0) [] (Qg β ρ []) B b o:=fun b o kn=>⟨.inl kn,JU kn.2.1 ko,by simp,by simp[Qg]⟩
  refine⟨⟨hC.hX,rfl,rfl,hC.hd,rfl,⟨hC.hK.1,?_⟩,fun b hb=>⟨hOB b hb,fun o kn=>?_⟩,fun b o kn=>?_,QN hC.hW (QN h.bel.size ko)⟩,?_⟩
  · exact((Lt h hC.hK.2).keep ko fun b o kn=>zn b kn.2.1 (qf b o kn)).weak fun b o kn=>⟨kn,by simp[reY],JU kn.2.1 ko⟩
  · rcases hO' b hb with q | q
    · exact qf b o kn q
    · have:=kn.2.1; omega
  · have hbo':okR X β ρ S.mem A b o:=kn
    rcases hbo'.1 with q | q
    · exact hC.hC b o q
    · exact .inr (.inl (QN hC.hW q))
  · exact { sz:=h.sz,df:=h.df,fr:=by simp[reY],pn:=by simp[reY],tm:=by simp,bel:=Ud.refl _ _ _,obj:=by simp,dHH:=by simp,dHO:=by simp,
            dat:=Jg.2 fun x hx=>by
              obtain⟨e,he,rfl⟩:=QY.1 hx
              exact(enD β ρ a e).weak ((enD β ρ a e).evo (Jg.1 h.dat _ (QY.2 ⟨e,he,rfl⟩)) yx) hk,
            own:=by simp[Qg],dOO:=by simp[Qg] }
section
variable (hT:Q4 P Y.T) {ok:Ok} {w0:World} {bs:List Nat} {l m:Nat} {a0:Act} {J:Nat→(Nat→Prop)→World→Prop}
 (zg:∀k O A B,J k O A→Below A.heap.size A B→J k O B) (hlt:∀k O A,J k O A→∀b,O b→b<A.heap.size∧(∀o,¬ ok b o)∧b∉bs)
 (hy:∀k O A e v,J k O A→es[k]?=some e→isV (rt u) (okC ok w0 A O bs) A e v→∀m,YieldAt Fence.wide m P l #[v] A fun r B=>r=.returned (.bool true) ∧
     ∃O',J (k+1) O' B∧(∀b,O' b→O b∨A.heap.size≤b)∧A.heap.size≤B.heap.size∧∀b,b<A.heap.size→¬ O b→B.heap[b]?=A.heap[b]?)
include hT zg hlt hy
def YOk(P:Program)(Y:TX)(K:List Con)(n:Nat)(ok:Ok)(w0:World)(bs:List Nat)(J:Nat→(Nat→Prop)→World→Prop)(a0:Act)(S:XS)(β:Nat→Nat)(ρ:Nat→Value){R:Type}{u:Ty}(k:Ex→XS→List u.De→Option R)(r:R)(Q:Exit→Act→World→Prop):Prop :=
 ∀(X:Cx) (O:Nat→Prop) (e:Ex) (β':Nat→Nat) (ρ':Nat→Value) (S':XS) (a':Act) (w':World) (acc':List u.De),k e S' acc'=some r→YCx P Y K n ok w0 bs X O→J acc'.length O X.w→Y6 S S' β β' ρ ρ'→Rel X β' ρ' S'.flat a' w'→a'.tmps[0]?=a0.tmps[0]?→Q e.exit a' w'
theorem R8{R:Type}{r:R}{ops:List Oper}{yv:Value}(uo:yv=.func (.yield l) #[] #[]):∀(hn:HnY) {os:List Oper} {ys:List Nat} {S:XS} {acc:List u.De} {k:XS→List u.De→Option R} {X:Cx} {O:Nat→Prop} {β:Nat→Nat} {ρ:Nat→Value} {a:Act} {w:World} {Q:Exit→Act→World→Prop},
  ¬ LetsOut Q→(∀d∈K7 os,d∉[0])→A8 Y K n u ops hn os ys S acc k=some r→(∀S' acc',k S' acc'=some r→acc' <+: es)→YCx P Y K n ok w0 bs X O→J acc.length O X.w→Rel X β ρ S.flat a w→(∀t∈ys,a.tmps[t]?=some yv)→a.tmps[0]?=a0.tmps[0]? →
  YOk P Y K n ok w0 bs J a0 S β ρ (fun _=>k) r (fun _=>Q .normal)→wpListIn Fence.wide m P ⟨ops⟩ Q os a w
 | .done,os,ys,S,acc,k,X,O,β,ρ,a,w,Q,hQ,hz,h,hk,hC,hJ,hR,zp,h0,H=>by
  unfold A8 at h
  split at h
  ·exact H X O .n β ρ S a w acc h hC hJ (Y6.refl _ _ _) hR h0
  ·cases h
 | .h m1 hn rr,os,ys,S,acc,k,X,O,β,ρ,a,w,Q,hQ,hz,h,hk,hC,hJ,hR,zp,h0,H=>by
  unfold A8 at h
  obtain⟨hb,h⟩:=bvT h
  simp only[QQ]at hb
  have nj:os=os.take m1++os.drop m1:=(JH m1 os).symm
  have hd1:∀d∈K7 (os.take m1),d∈K7 os:=fun d hd=>by
   rw[nj,Qaa]; exact QZ _ hd
  have mw:∀d∈K7 (os.drop m1),d∈K7 os:=fun d hd=>by
   rw[nj,Qaa]; exact QV _ hd
  have ka:=Y5 hT hC.hK hC.hX hC.hr (Q:=QL (K7 (os.take m1)) a (fun a' w'=>wpListIn Fence.wide m P ⟨ops⟩ Q (os.drop m1) a' w') Q) hn (l:=os.take m1) (rest:=[]) hR h fun β' ρ' S' a' w' h1 h2 h3=>fun zn=>by
   refine R8 uo rr hQ (fun d hd=>hz d (mw d hd)) h1 hk hC hJ h3 (fun t ht=>?_) ?_ fun X2 O2 e β2 ρ2 S2 a2 w2 acc2 q1 q2 q3 q4 q5 q6=>H X2 O2 e β2 ρ2 S2 a2 w2 acc2 q1 q2 q3 (h2.trans q4) q5 q6
   ·rw[zn t fun hm=>Qq8 hb.2 hm ht]; exact zp t ht
   ·rw[zn 0 fun hm=>hz 0 (hd1 0 hm) (.head _)]; exact h0
  rw[QR]at ka
  have:=Qks (ro:=none) (m:=m) (tl:=os.drop m1) hQ (fun a w hz=>hz) (os.take m1) hb.1 (fun d hd=>hd) a w (fun t _=>rfl) ka
  rw[JH]at this
  exact this
 | .mv rr,os,ys,S,acc,k,X,O,β,ρ,a,w,Q,hQ,hz,h,hk,hC,hJ,hR,zp,h0,H=>by
  unfold A8 at h
  split at h
  ·rename_i o os'
   split at h
   ·rename_i t d kg sw
    obtain⟨hb,h⟩:=bvT h
    simp only[QQ]at hb
    have hw:=Qq9 hR hb.2
    obtain⟨zl,hwo⟩:=Yy hb.1.2 hC.hX hC.hr
    have hyt:=zp t (Q11 hb.1.1)
    unfold wpListIn
    rw[if_pos hw]
    refine⟨fun _ _=>trivial,?_⟩
    have ug:Oper.semAt Fence.wide.round a.eval o=execOp a.eval o:=Oper.semAt_none _ _
    have ka:(execOp a.eval o).run P w=.ok (.value yv) w:=by
     unfold execOp
     rw[kg]
     have:a.eval (.tmp t)=yv:=by
      show a.tmps.getD t undef=yv
      simp[JC,hyt]
     simp[this]
    rw[ug,ka]
    show wpListIn Fence.wide m P ⟨ops⟩ Q os' (a.put o.dst yv) w
    rw[sw]
    have hR2:Rel X β ρ (XS.flat { S with env:=Js S.env d }) (a.put (some d) yv) w:=by
     have:=hR.del zl yv
     have e:(St.del S.flat d)=XS.flat { S with env:=Js S.env d }:=by
      simp only[St.del,XS.flat,K3 hwo]
     rw[e]at this
     exact this
    have hdz:d∉[0]:=hz d (by simp[K7,sw])
    have ir:d<a.tmps.size:=by rw[hR.sz]; exact Tn zl
    refine R8 uo rr hQ (fun d' vh=>hz d' (by simp only[K7,sw]; exact .tail _ vh)) h hk hC hJ hR2 (fun t' zb=>?_) ((Y7 (t:=0) (d:=d) (fun e=>hdz (by rw[←e]; exact .head _)) _).trans h0) fun X2 O2 e β2 ρ2 S2 a2 w2 acc2 q1 q2 q3 q4 q5 q6=>H X2 O2 e β2 ρ2 S2 a2 w2 acc2 q1 q2 q3 ⟨q4.fix,q4.fixM,q4.prot,q4.ag⟩ q5 q6
    by_cases e:t'=d
    ·subst e; simp[Act.put,ir]
    ·rcases QX.1 zb with e2 | zb
     ·exact absurd e2 e
     ·rw[Y7 e]; exact zp t' zb
   ·cases h
  ·cases h
 | .yl rr,os,ys,S,acc,k,X,O,β,ρ,a,w,Q,hQ,hz,h,hk,hC,hJ,hR,zp,h0,H=>by
  unfold A8 at h
  split at h
  ·rename_i o os'
   split at h
   ·rename_i t x ts d kg sw
    split at h
    ·rename_i v hv
     split at h
     ·rename_i y hyd
      obtain⟨hb,h⟩:=bvT h
      simp only[QQ,XF]at hb
      obtain⟨⟨⟨⟨⟨b1,b2⟩,b3⟩,b4⟩,b5⟩,b6⟩:=hb
      have hw:=Qq9 hR b3
      obtain⟨zl,hwo⟩:=Yy b2 hC.hX hC.hr
      have hyt:=zp t (Q11 b1)
      have hyt':a.eval (.tmp t)=yv:=by
       show a.tmps.getD t undef=yv
       simp[JC,hyt]
      have bc:S.fixM=[]:=by
       cases hE:S.fixM with
       | nil=>rfl
       | cons q l=>rw[hE]at b6; cases b6
      obtain⟨cs,my,ux⟩:=hR.ev (Qc a) hv
      have ym:isV (rt u) (okR X β ρ S.flat.mem w) w y (a.eval x):=by
       refine⟨cs,Z6 (M:=[]) (β:=β) (ρ:=ρ) (by simp[Qe]) hyd ux,?_⟩
       rw[my]; simp only[AV.val,RT.val,B7,bEq b5]; cases v.isAgg<;>rfl
      have vf:acc++[y] <+: es:=Ce rr h hk
      have fh:es[acc.length]?=some y:=by
       obtain⟨tl,rfl⟩:=vf
       simp
      have hJw:=zg _ _ _ _ hJ (Qu5 hR hC.hl)
      have hvalC:isV (rt u) (okC ok w0 w O bs) w y (a.eval x):=ym.weak fun b o' kn=>by
       refine⟨?_,kn.2.1,fun hOb=>?_⟩
       ·rcases kn.1 with q | q
        ·exact hC.hC b o' q
        ·exact .inr (.inl (QN hC.hW q))
       ·obtain⟨q1,q2⟩:=hC.hO b hOb
        rcases kn.1 with q | q
        ·exact q2 o' q
        ·omega
      obtain⟨fn,tmps,assign,body,hyr,ei⟩:=hy _ _ _ _ _ hJw fh hvalC (m - 1)
      unfold wpListIn
      rw[if_pos hw]
      refine⟨fun _ _=>trivial,?_⟩
      have ug:Oper.semAt Fence.wide.round a.eval o=execOp a.eval o:=Oper.semAt_none _ _
      have ka:(execOp a.eval o).run P w=.ok (.round l fn tmps assign body) w:=by
       unfold execOp
       rw[kg]
       have hm:(Array.mk [x]).map a.eval=#[a.eval x]:=by simp
       simp[resolve,hm,hyt',uo,Deferred.ofValue,invoke,hyr]
      rw[ug,ka]
      refine⟨fun hd=>(by have h0:Fence.wide.depth.isSome=false:=rfl; rw[h0]at hd; cases hd),ei.mono ?_⟩
      rintro r2 B ⟨rfl,O',hJ',hO',ko,zn⟩
      obtain⟨hC2,hR2⟩:=Jpo hC hR hO' (fun b hb=>(hlt _ _ _ hJ' b hb).1) ko zn
      show wpListIn Fence.wide m P ⟨ops⟩ Q os' (a.put o.dst (.bool true)) B
      rw[sw]
      obtain⟨hwd2,_⟩:=Yy b2 hC2.hX hC2.hr
      have hR3:Rel (reY X β ρ S.flat.mem w B) β ρ (XS.flat (XS.put { S with mem:=[] } d [] (.d .bool true))) (a.put (some d) (.bool true)) B:=by
       have pv:XS.flat { S with mem:=[] }=⟨S.flat.env,[]⟩:=by simp[XS.flat,bc]
       rw[Xs (S:={ S with mem:=[] }) hwo,pv]
       exact hR2.put0 hwd2 (x:=.d .bool true) (c:=[.bool true]) rfl
      have hdz:d∉[0]:=hz d (by simp[K7,sw])
      refine R8 uo rr hQ (fun d' vh=>hz d' (by simp only[K7,sw]; exact .tail _ vh)) h hk hC2 (by rw[QI]; exact hJ') hR3 (fun t' zb=>?_) ((Y7 (t:=0) (d:=d) (fun e=>hdz (by rw[←e]; exact .head _)) _).trans h0) fun X2 O2 e β2 ρ2 S2 a2 w2 acc2 q1 q2 q3 q4 q5 q6=>H X2 O2 e β2 ρ2 S2 a2 w2 acc2 q1 q2 q3 ⟨q4.fix,q4.fixM,q4.prot,q4.ag⟩ q5 q6
      by_cases e:t'=d
      ·subst e
       rw[Qeu zb]at b4; cases b4
      ·rw[Y7 e]; exact zp t' zb
     ·cases h
    ·cases h
   ·cases h
  ·cases h
 | .so t x y,os,ys,S,acc,k,X,O,β,ρ,a,w,Q,hQ,hz,h,hk,hC,hJ,hR,zp,h0,H=>by
  unfold A8 at h
  split at h
  ·rename_i t' v he
   obtain⟨yc,h1⟩:=bvT h
   have zb:=(U2 he).2
   simp only at zb
   subst zb
   split at h1
   ·rename_i hv
    subst hv
    exact R8 uo x hQ hz h1 hk hC hJ (Qqw hR he) zp h0 fun X2 O2 e β2 ρ2 S2 a2 w2 acc2 q1 q2 q3 q4 q5 q6=>H X2 O2 e β2 ρ2 S2 a2 w2 acc2 q1 q2 q3 ⟨q4.fix,q4.fixM,q4.prot,q4.ag⟩ q5 q6
   ·rename_i hv
    have hv:v=false:=by simpa using hv
    subst hv
    exact R8 uo y hQ hz h1 hk hC hJ (Qqw hR he) zp h0 fun X2 O2 e β2 ρ2 S2 a2 w2 acc2 q1 q2 q3 q4 q5 q6=>H X2 O2 e β2 ρ2 S2 a2 w2 acc2 q1 q2 q3 ⟨q4.fix,q4.fixM,q4.prot,q4.ag⟩ q5 q6
  ·cases h
theorem Qab(ly:a0.tmps[0]?=some (.func (.yield l) #[] #[])):∀{R:Type} {r:R} (an:AnY) {c:Code} {S:XS} {acc:List u.De} {k:Ex→XS→List u.De→Option R} {X:Cx} {O:Nat→Prop} {β:Nat→Nat} {ρ:Nat→Value} {a:Act} {w:World} {Q:Exit→Act→World→Prop},
  ¬ LetsOut Q→F5 Y K n N u an c S acc k=some r→(∀e S' acc',k e S' acc'=some r→acc' <+: es)→YCx P Y K n ok w0 bs X O→J acc.length O X.w→Rel X β ρ S.flat a w→a.tmps[0]?=a0.tmps[0]?→YOk P Y K n ok w0 bs J a0 S β ρ k r Q→c.wp P Q a w
 | R,r,.nil,c,S,acc,k,X,O,β,ρ,a,w,Q,hQ,h,hk,hC,hJ,hR,h0,H=>by
  cases c<;>simp only[F5]at h<;>first | (cases h; done) | skip
  ·exact wp_skip (H X O .n β ρ S a w acc h hC hJ (Y6.refl _ _ _) hR h0)
  ·rename_i id; exact wp_exit (H X O (.x id) β ρ S a w acc h hC hJ (Y6.refl _ _ _) hR h0)
  ·exact wp_ret (H X O .r β ρ S a w acc h hC hJ (Y6.refl _ _ _) hR h0)
 | R,r,.reg hn,c,S,acc,k,X,O,β,ρ,a,w,Q,hQ,h,hk,hC,hJ,hR,h0,H=>by
  cases c with
  | region id ops draw =>
   obtain⟨ops⟩:=ops
   cases draw with
   | true=>simp[F5]at h
   | false =>
    simp only[F5]at h
    obtain⟨hb,h⟩:=bvT h
    simp only[QQ]at hb
    refine(wpIn_wide (n:=1)).1 (wpIn_region_list ?_)
    have:=Y5 hT hC.hK hC.hX hC.hr (Q:=QS (K7 ops) a Q) hn (l:=ops) (rest:=[]) hR h fun β' ρ' S' a' w' h1 h2 h3=>fun zn=>H X O .n β' ρ' S' a' w' acc h1 hC hJ h2 h3 ((zn 0 fun hm=>Qq8 hb.2 hm (.head _)).trans h0)
    rw[QR]at this
    exact Qu2 (ro:=none) hQ ops hb.1 (fun d hd=>hd) a w (fun t _=>rfl) this
  | _=>simp[F5]at h
 | R,r,.yr hn,c,S,acc,k,X,O,β,ρ,a,w,Q,hQ,h,hk,hC,hJ,hR,h0,H=>by
  cases c with
  | region id ops draw =>
   obtain⟨ops⟩:=ops
   cases draw with
   | true=>simp[F5]at h
   | false =>
    simp only[F5]at h
    obtain⟨hb,h⟩:=bvT h
    refine(wpIn_wide (n:=1)).1 (wpIn_region_list ?_)
    exact R8 (m:=1) hT zg hlt hy rfl hn hQ (fun d hd hm=>Qq8 hb hd hm) h (fun S' acc' h'=>hk _ _ _ h') hC hJ hR (fun t ht=>by
     have:t=0:=by simpa using ht
     subst this; rw[h0]; exact ly) h0 fun X2 O2 e β2 ρ2 S2 a2 w2 acc2 q1 q2 q3 q4 q5 q6=>H X2 O2 .n β2 ρ2 S2 a2 w2 acc2 q1 q2 q3 q4 q5 q6
  | _=>simp[F5]at h
 | R,r,.two x y,c,S,acc,k,X,O,β,ρ,a,w,Q,hQ,h,hk,hC,hJ,hR,h0,H=>by
  cases c<;>simp only[F5]at h<;>first | (cases h; done) | skip
  ·rename_i c1 c2
   refine wp_seq (Qab ly x (Q:=Exit.then (c2.wp P Q) Q) hQ h (fun e S' acc' h'=>?_) hC hJ hR h0 fun X2 O2 e β2 ρ2 S2 a2 w2 acc2 q1 q2 q3 q4 q5 q6=>?_)
   ·cases e with
    | n=>exact Db y h' hk
    | x i=>exact hk _ _ _ h'
    | r=>exact hk _ _ _ h'
   ·cases e with
    | n=>exact Qab ly y hQ q1 hk q2 q3 q5 q6 fun X3 O3 e β3 ρ3 S3 a3 w3 acc3 p1 p2 p3 p4 p5 p6=>H X3 O3 e β3 ρ3 S3 a3 w3 acc3 p1 p2 p3 (q4.trans p4) p5 p6
    | x i=>exact H X2 O2 (.x i) β2 ρ2 S2 a2 w2 acc2 q1 q2 q3 q4 q5 q6
    | r=>exact H X2 O2 .r β2 ρ2 S2 a2 w2 acc2 q1 q2 q3 q4 q5 q6
  ·rename_i co c1 c2
   split at h
   ·rename_i v hv
    obtain⟨cs,h1,h2⟩:=hR.ev (Qc a) hv
    have zj:cs=_:=h2
    subst zj
    have k5:a.eval co=.bool v:=h1
    refine wp_cond_split k5 (fun hv=>?_) (fun hv=>?_)
    ·rw[if_pos hv]at h
     exact Qab ly x hQ h hk hC hJ hR h0 H
    ·rw[if_neg (by rw[hv]; simp)]at h
     exact Qab ly y hQ h hk hC hJ hR h0 H
   ·cases h
 | R,r,.un x,c,S,acc,k,X,O,β,ρ,a,w,Q,hQ,h,hk,hC,hJ,hR,h0,H=>by
  cases c<;>simp only[F5]at h<;>first | (cases h; done) | skip
  rename_i id c1
  refine wp_block (Qab ly x (Q:=Exit.inBlock id Q) hQ h (fun e S' acc' h'=>?_) hC hJ hR h0 fun X2 O2 e β2 ρ2 S2 a2 w2 acc2 q1 q2 q3 q4 q5 q6=>?_)
  ·cases e with
   | n=>exact hk _ _ _ h'
   | x i =>
    simp only at h'
    cases hb:Nat.beq i id with
    | true=>rw[hb]at h'; exact hk _ _ _ h'
    | false=>rw[hb]at h'; exact hk _ _ _ h'
   | r=>exact hk _ _ _ h'
  ·cases e with
   | n=>exact H X2 O2 .n β2 ρ2 S2 a2 w2 acc2 q1 q2 q3 q4 q5 q6
   | x i =>
    simp only at q1
    show if i=id then Q .normal a2 w2 else Q (.exit i) a2 w2
    cases hb:Nat.beq i id with
    | true =>
     rw[hb]at q1
     rw[if_pos (QJ hb)]
     exact H X2 O2 .n β2 ρ2 S2 a2 w2 acc2 q1 q2 q3 q4 q5 q6
    | false =>
     rw[hb]at q1
     rw[if_neg (fun e=>by rw[e,JY]at hb; cases hb)]
     exact H X2 O2 (.x i) β2 ρ2 S2 a2 w2 acc2 q1 q2 q3 q4 q5 q6
   | r=>exact H X2 O2 .r β2 ρ2 S2 a2 w2 acc2 q1 q2 q3 q4 q5 q6
 | R,r,.lp ks ms Γ exs x,c,S,acc,k,X,O,β,ρ,a,w,Q,hQ,h,hk,hC,hJ,hR,h0,H=>by
  cases c<;>simp only[F5]at h<;>first | (cases h; done) | skip
  rename_i c1
  split at h
  ·rename_i s0 z6
   obtain⟨z,hz,ho⟩:=Yk h
   obtain⟨e0,S0,ql⟩:=Qra ho
   have hzp:z.2 <+: es:=hk _ _ _ ql
   obtain⟨f,hz,hf⟩:∃f,Qf f N (s0,acc)=some z∧f=_:=⟨_,hz,rfl⟩
   have main:∀(m:Nat) (q:Γ.De×List u.De),Qf f m q=some z→q.2 <+: es:=by
    intro m
    induction m with
    | zero=>intro q hq; simp[Qf]at hq
    | succ m ih =>
     intro q hq
     simp only[Qf]at hq
     obtain⟨x,hx,hq⟩:=Yk hq
     rw[hf]at hx
     refine Db _ hx fun e S' acc' h'=>?_
     have fin:(∃s',some (Sum.inl (s',acc'))=some x)∨(∃y,some (Sum.inr (y,acc'))=some x)→acc' <+: es:=by
      rintro(⟨s',e1⟩ | ⟨y,e1⟩)
      ·injection e1 with e1; subst e1; exact ih _ hq
      ·injection e1 with e1; subst e1
       injection hq with hq; subst hq; exact hzp
     cases e with
     | n =>
      simp only at h'
      split at h'
      ·exact fin (.inl ⟨_,h'⟩)
      ·cases h'
     | x i =>
      simp only at h'
      split at h'
      ·exact fin (.inr ⟨_,h'⟩)
      ·cases h'
     | r =>
      simp only at h'
      split at h'
      ·exact fin (.inr ⟨_,h'⟩)
      ·cases h'
   obtain⟨β1,ρ1,h1,h2⟩:=If (S0:=S.ent ks ms) (hR.ent ks ms) ⟨rfl,rfl,rfl⟩ z6
   refine To (fun m a w=>∃(s:Γ.De) (ac:List u.De) (X1:Cx) (O1:Nat→Prop) (β':Nat→Nat) (ρ':Nat→Value),YCx P Y K n ok w0 bs X1 O1∧J ac.length O1 X1.w∧a.tmps[0]?=a0.tmps[0]?∧agP S.prot β β' ρ ρ'∧Rel X1 β' ρ' ((S.ent ks ms).re (enc Γ s)).flat a w∧Qf f m (s,ac)=some z) N ⟨s0,acc,X,O,β1,ρ1,hC,hJ,h0,h1,h2,hz⟩ ?_
   rintro m1 a1 w1 ⟨s,ac,X1,O1,β',ρ',hC1,hJ1,jy,h3,h4,h5⟩
   cases m1 with
   | zero=>simp[Qf]at h5
   | succ m1 =>
    simp only[Qf]at h5
    obtain⟨q,hq,h5⟩:=Yk h5
    rw[hf]at hq
    have fin:∀acc',(∃s',some (Sum.inl (s',acc'))=some q)∨(∃y,some (Sum.inr (y,acc'))=some q)→acc' <+: es:=by
     rintro acc' (⟨s',e1⟩ | ⟨y,e1⟩)
     ·injection e1 with e1; subst e1; exact main m1 _ h5
     ·injection e1 with e1; subst e1
      injection h5 with h5; subst h5; exact hzp
    refine Qab ly x (Q:=Exit.then (fun a' w'=>∃k,k<m1+1∧∃(s:Γ.De) (ac:List u.De) (X1:Cx) (O1:Nat→Prop) (β':Nat→Nat) (ρ':Nat→Value),YCx P Y K n ok w0 bs X1 O1∧J ac.length O1 X1.w∧a'.tmps[0]?=a0.tmps[0]?∧agP S.prot β β' ρ ρ'∧Rel X1 β' ρ' ((S.ent ks ms).re (enc Γ s)).flat a' w'∧Qf f k (s,ac)=some z) Q) hQ hq (fun e S' acc' h'=>?_) hC1 hJ1 h4 jy fun X2 O2 e β2 ρ2 S' a' w' acc2 h6 q2 q3 h7 h8 q6=>?_
    ·cases e with
     | n =>
      simp only at h'
      split at h'
      ·exact fin _ (.inl ⟨_,h'⟩)
      ·cases h'
     | x i =>
      simp only at h'
      split at h'
      ·exact fin _ (.inr ⟨_,h'⟩)
      ·cases h'
     | r =>
      simp only at h'
      split at h'
      ·exact fin _ (.inr ⟨_,h'⟩)
      ·cases h'
    ·cases e with
     | n =>
      simp only at h6
      split at h6
      ·rename_i s' hd
       injection h6 with h6; subst h6
       obtain⟨β3,ρ3,h9,p7⟩:=If (S0:=S.ent ks ms) h8 ⟨h7.fix,h7.fixM,h7.prot⟩ hd
       exact⟨m1,VH m1,s',acc2,X2,O2,β3,ρ3,q2,q3,q6,(h3.trans h7.ag).trans h9,p7,h5⟩
      ·cases h6
     | x i =>
      simp only at h6
      split at h6
      ·rename_i s' hd
       injection h6 with h6; subst h6
       injection h5 with h5; subst h5
       obtain⟨β3,ρ3,S1,h9,p7,fu⟩:=Qgt ks ms hd ho ⟨h7.fix,h7.fixM,h7.prot⟩ h8
       exact H X2 O2 (.x i) β3 ρ3 _ a' w' acc2 h9 q2 q3 ⟨rfl,rfl,rfl,(h3.trans h7.ag).trans p7⟩ fu q6
      ·cases h6
     | r =>
      simp only at h6
      split at h6
      ·rename_i s' hd
       injection h6 with h6; subst h6
       injection h5 with h5; subst h5
       obtain⟨β3,ρ3,S1,h9,p7,fu⟩:=Qgt ks ms hd ho ⟨h7.fix,h7.fixM,h7.prot⟩ h8
       exact H X2 O2 .r β3 ρ3 _ a' w' acc2 h9 q2 q3 ⟨rfl,rfl,rfl,(h3.trans h7.ag).trans p7⟩ fu q6
      ·cases h6
  ·cases h
end
end
def Jca:List DV→Nat→List En
 | [],_=>[]
 | v::l,i=>⟨i,[],.a v.1 v.2⟩::Jca l (i+1)
def Jmp(Y:TX)(K:List Con)(N:Nat)(u:Ty)(fn:Func)(an:AnY)(cs:List Ty)(x:Tup cs):Option (List u.De):=match fn.body with
 | some c=>bif Nat.ble (cs.length+1) fn.ntmps&&Nat.blt (cs.length+1) 100000 then F5 Y K fn.ntmps N u an c ⟨Jca (toL cs x) 1,Qin Y.gl,[],[],[]⟩ [] fun e S acc=>match e with
  | .x _=>none
  | .n=>some acc
  | .r=>some acc else none
 | none=>none
theorem Qoy:∀(ts:List Ty) (x:Tup ts),(toL ts x).length=ts.length
 | [],_=>rfl
 | [t],x=>rfl
 | t::u::ts,x=>by simp[toL,Qoy (u::ts)]
theorem Q12{ok:Ok}{w:World}:∀{l:List DV} {bs:List Nat},Jb7 ok w l bs→bs.length=l.length
 | [],[],_=>rfl
 | v::l,b::bs,h=>by simp[Q12 h.2]
 | [],_::_,h=>h.elim
 | _::_,[],h=>h.elim
theorem Qrb{ok:Ok}{w:World}:∀{l:List DV} {bs:List Nat},Jb7 ok w l bs→∀(i:Nat) v,l[i]?=some v→∃b,bs[i]?=some b∧∃tid cs,w.heap[b]?=some (.cells cs.toArray tid (0,0))∧(rt v.1).rep ok w v.2 cs
 | [],[],_,i,v,hv=>by simp at hv
 | x::l,b::bs,h,0,v,hv=>by
  simp at hv; subst hv
  exact⟨b,rfl,h.1⟩
 | x::l,b::bs,h,i+1,v,hv=>Qrb h.2 i v (by simpa using hv)
 | [],_::_,h,_,_,_=>h.elim
 | _::_,[],h,_,_,_=>h.elim
theorem Q13:∀{l:List DV} {i:Nat} {e:En},e∈Jca l i→∃j v,l[j]?=some v∧e=⟨i+j,[],.a v.1 v.2⟩
 | v::l,i,e,h=>by
  rcases QX.1 h with rfl | h
  ·exact⟨0,v,rfl,rfl⟩
  ·obtain⟨j,v',h1,h2⟩:=Q13 h
   exact⟨j+1,v',h1,by rw[h2]; congr 1; omega⟩
theorem Jk5{P:Program}{Y:TX}{K:List Con}{N:Nat}(hT:Q4 P Y.T)(ze:P.follows .mixedOrders=true)(hK:Q1l P Y.gl K){it:It}{fn:Func}(hf:P.funcs[it.f]?=some fn)(vb:fn.results=#[]){an:AnY}(ka:∀x,it.fn x=Jmp Y K N it.u fn an it.cs x):Jb8 P Y.gl it:=by
 intro ok w bs x es kj hG xe ng ye hbno l J W O0 zo zg hlt hy hJ0 m
 rw[ka]at xe
 unfold Jmp at xe
 split at xe
 case h_2=>cases xe
 rename_i c hb
 obtain⟨hc,xe⟩:=bvT xe
 simp only[QQ]at hc
 have hn:=QF hc.1
 have td:=QF hc.2
 have xy:=Q12 ng
 rw[Qoy]at xy
 refine callsIn_wide.2 (calls_of_wp hf hb ?_)
 obtain⟨a,ha⟩:∃a:Act,a={ tmps:=(#[Value.func (.yield l) #[] #[]]++(bs.map Qxx).toArray)++Array.replicate (fn.ntmps - (#[Value.func (.yield l) #[] #[]]++(bs.map Qxx).toArray).size) undef,defers:=[] }:=⟨_,rfl⟩
 rw[←ha]
 have xp:(#[Value.func (.yield l) #[] #[]]++(bs.map Qxx).toArray).size=it.cs.length+1:=by
  simp[xy]
  try omega
 have ly:a.tmps[0]?=some (.func (.yield l) #[] #[]):=by
  rw[ha]
  show((#[Value.func (.yield l) #[] #[]]++(bs.map Qxx).toArray)++_)[0]?=_
  rw[XM (by simp),XM (by simp)]
  rfl
 have xg:∀(j:Nat) b,bs[j]?=some b→a.tmps[1+j]?=some (Qxx b):=fun j b hj=>by
  rw[ha]
  have sy:=(QK.1 hj).1
  rw[XM (by rw[xp]; omega),Array.getElem?_append_right (by simp)]
  simp[hj]
 obtain⟨X,hX⟩:∃X:Cx,X=⟨fn.ntmps,fun b o=>ok b o∨b∈bs,W,[],⟨#[],[]⟩,none,[],by simp,[]⟩:=⟨_,rfl⟩
 have yx:Evo ok w W:=(Evo.of_below zo).mono fun b o kn=>kj b o kn
 have hbW:∀b∈bs,b<w.heap.size:=fun b hb=>by
  obtain⟨i,hi⟩:=XC hb
  have uh:=(QK.1 hi).1
  have hvl:i<(toL it.cs x).length:=by rw[Qoy]; omega
  obtain⟨b',h1,tid,cs,h2,_⟩:=Qrb ng i _ (QU hvl)
  rw[hi]at h1; injection h1 with h1; subst h1
  exact Yi h2
 have hGX:Vs Y.gl (okN X) X.w:=by
  rw[hX]
  exact(hG.keep zo.size fun b o kn=>zo.block b (kj b o kn)).weak fun b o kn=>⟨.inl kn,by simp,JU (kj b o kn) zo.size⟩
 have hGW:Vs Y.gl (okN X) W:=by
  have h:=hGX
  rw[show X.w=W by rw[hX]]at h
  exact h
 have hokR:∀b o,ok b o∨b∈bs→okR X (fun _=>0) (fun _=>undef) [] W b o:=fun b o kn=>⟨.inl (by rw[hX]; exact kn),by
  rcases kn with h | h
  ·exact JU (kj b o h) zo.size
  ·exact JU (hbW b h) zo.size,by simp,by simp[Qg]⟩
 have hR:Rel X (fun _=>0) (fun _=>undef) (XS.flat ⟨Jca (toL it.cs x) 1,Qin Y.gl,[],[],[]⟩) a W:=by
  have hS:Sb (fun _=>0) X [] [] [] (Qg (fun _=>0) (fun _=>undef) []) a W :=
   { sz:=by rw[ha,hX]; simp only[KV,VT,xp]; omega,df:=by rw[ha,hX],fr:=by rw[hX]; simp,pn:=by rw[hX]; simp,tm:=by simp,bel:=by rw[hX]; exact Ud.refl _ _ _,dat:=trivial,obj:=by simp,own:=by simp[Qg],dHH:=by simp,dHO:=by simp,dOO:=by simp[Qg] }
  have e:XS.flat ⟨Jca (toL it.cs x) 1,Qin Y.gl,[],[],[]⟩=⟨Jca (toL it.cs x) 1++Qin Y.gl,[]⟩:=by simp[XS.flat]
  rw[e]
  refine Rel.ofSb hS rfl fun e he=>?_
  rcases QW.1 he with he | he
  ·obtain⟨j,v,hj,rfl⟩:=Q13 he
   obtain⟨b,fi,tid,cs,yd,hb3⟩:=Qrb ng j v hj
   have sy:=(QK.1 hj).1
   rw[Qoy]at sy
   have hbm:=JM fi
   refine⟨fun _=>⟨[Qxx b],?_,Qxx b,rfl,b,0,cs,rfl,(rt v.1).weak ((rt v.1).evo hb3 yx) fun b o kn=>hokR b o (.inl kn),fun j2 u2 ai=>⟨hokR _ _ (.inr hbm),?_⟩⟩,.inl (Qc a)⟩
   ·rw[L0 (XT (by show 1+j+1≤100000; omega))]
    exact xg j b fi
   ·have hbw:W.heap[b]?=some (.cells cs.toArray tid (0,0)):=(zo.block b (hbW b hbm)).trans yd
    simp only[World.cell?,hbw,QE]
    simpa using ai
  ·exact Q10 hGW (fun b o (kn:okN X b o)=>⟨.inl kn.1,(by have h:=kn.2.2; rw[hX]at h; exact h),by simp,by simp[Qg]⟩) e he
 have hC:YCx P Y K fn.ntmps ok w bs X O0:=by
  refine⟨by rw[hX],by rw[hX],by rw[hX],by rw[hX],by rw[hX],⟨hK,hGX⟩,fun b hb=>?_,fun b o kn=>?_,by rw[hX]; exact zo.size⟩
  ·obtain⟨q1,q2,q3⟩:=hlt _ _ _ hJ0 b hb
   rw[hX]
   exact⟨q1,fun o kn=>kn.elim (q2 o) q3⟩
  ·rw[hX]at kn
   exact kn.elim .inl fun h=>.inr (.inr h)
 have hJX:J ([]:List it.u.De).length O0 X.w:=by rw[hX]; exact hJ0
 refine Qab (a0:=a) hT zg hlt hy ly an (Q:=bodyPost P fn _) ?_ xe (fun e S' acc' h'=>?_) hC hJX hR rfl fun X2 O2 e β' ρ' S' a' w' acc' h1 h2 h3 h4 h5 h6=>?_
 ·rintro⟨_,_,h⟩
  obtain⟨⟨v,hv⟩,_⟩:=h
  cases hv
 ·cases e with
  | x i=>cases h'
  | n=>injection h' with h'; subst h'; exact List.prefix_refl _
  | r=>injection h' with h'; subst h'; exact List.prefix_refl _
 ·have yn:acc'=es→bodyPost P fn (fun e B=>(∃v,e=.returned v)∧∃O,J es.length O B) .ret a' w':=fun he=>by
   subst he
   refine⟨h5.df.trans h2.hd,.tuple #[],?_,⟨_,rfl⟩,O2,zg _ _ _ _ h3 (Qu5 h5 h2.hl)⟩
   simp[results,vb]
  cases e with
  | x i=>cases h1
  | n=>exact yn (by injection h1)
  | r=>exact yn (by injection h1)
end Gx

/- From a statement's arguments to data, and back to the statement. -/
namespace Gx
open Go Go.RowKit Gd Go.WideShapes Go.ChangeShapes
set_option linter.unusedVariables false
set_option linter.unusedSimpArgs false
def Qgv{α:Type}(g:α→Prop):Nat→Kk α→Prop
 | 0,_=>False
 | n+1,x=>g x.x∧Qpr (Qgv g n) x.ks
theorem Qkt{α:Type}{g:α→Prop}:∀{n m:Nat} {x:Kk α},n≤m→Qgv g n x→Qgv g m x
 | 0,_,_,_,h=>h.elim
 | n+1,0,_,hle,_=>absurd hle (by omega)
 | n+1,m+1,x,hle,h=>⟨h.1,h.2.1,fun y hy=>Qkt (by omega) (h.2.2 y hy)⟩
theorem Jgv{α:Type}{g:α→Prop}{x:α}{ks:List (Kk α)}(h:g x)(hk:Qpr (fun y=>∃n,Qgv g n y) ks):∃n,Qgv g n (.mk x ks):=by
 have:∃n,∀y∈ks,Qgv g n y:=by
  have h2:=hk.2
  clear hk
  induction ks with
  | nil=>exact⟨0,fun y hy=>by cases hy⟩
  | cons z l ih =>
   obtain⟨n,hn⟩:=ih fun y hy=>h2 y (.tail _ hy)
   obtain⟨m,hm⟩:=h2 z (.head _)
   refine⟨max n m,fun y hy=>?_⟩
   rcases QX.1 hy with rfl | hy
   ·exact Qkt (ZR _ _) hm
   ·exact Qkt (KM _ _) (hn y hy)
 obtain⟨n,hn⟩:=this
 exact⟨n+1,h,hk.1,hn⟩
def gd:(t:Ty)→t.De→Prop
 | .int k,x=>Je8 k x
 | .bool,_=>True
 | .str,x=>Je9 x
 | .sl e,x=>Qpr (gd e) x
 | .arr _ e,x=>∀y∈x,gd e y
 | .unit,_=>True
 | .pr f r,x=>gd f x.1∧gd r x.2
 | .st fs,x=>gd fs x
 | .ref,_=>True
 | .rose fs,x=>∃n,Qgv (gd fs) n x
abbrev Jz(P:Program)(t:TypeId)(ty:Ty):Prop:=A6 P (rt ty) t (gd ty)
section
variable {P:Program}
theorem Jcb{t:TypeId}{k:IntKind}(ht:P.underlying t=some (.int k))(hc:P.cellsOf t=1):Jz P t (.int k):=Ja1 ht hc
theorem Q6g{t:TypeId}(ht:P.underlying t=some .bool)(hc:P.cellsOf t=1):Jz P t .bool:=by
 have:=Q5o ht hc
 exact⟨this.1,this.2.1,fun enc w n cs x h=>let⟨y,h1,_⟩:=this.2.2 enc w n cs x h; ⟨y,h1,trivial⟩⟩
theorem Jcc{t:TypeId}(ht:P.underlying t=some .string)(hc:P.cellsOf t=1):Jz P t .str:=Ja2 ht hc
theorem U5{t e:TypeId}{ty:Ty}(ht:P.underlying t=some (.slice e))(hc:P.cellsOf t=1)(he:Jz P e ty)(zq:Nat.ble 1 ty.size=true):Jz P t (.sl ty) :=
 Jfa ht hc he (by rw[Ji]; exact QF zq)
inductive Q14(P:Program)(ff:Array Field):Ty→Nat→Nat→Prop
 | last {ty:Ty} {i off t:Nat} {f:Field} (ho:Jz P t ty) (hi:ff[i]?=some f) (ht:f.type=t) (yc:f.offset=off):Q14 P ff ty i off
 | pr {ty r:Ty} {i off t:Nat} {f:Field} (ho:Jz P t ty) (hi:ff[i]?=some f) (ht:f.type=t) (yc:f.offset=off) (hr:Q14 P ff r (i+1) (off+ty.size)):Q14 P ff (.pr ty r) i off
theorem Jcd{ff:Array Field}{H:Type}{enc:TypeId×Value→H}{w:World}{n:Nat}{cs:List Value}{xs:List (DataW H×List MemPlace)}
  (hlen:xs.length=ff.size) (hf:∀(i:Nat) (f:Field),ff[i]?=some f→DataW.trod enc P w 0 (fun _=>true) true n f.type ((cs.drop f.offset).take (P.cellsOf f.type))=xs[i]?) :
  ∀{ty:Ty} {i off:Nat},Q14 P ff ty i off→cs.length=off+ty.size→∃y,(rt ty).rep (lt w) w y (cs.drop off)∧gd ty y:=by
 intro ty i off h
 induction h with
 | last ho hi ht yc =>
  intro hl
  obtain⟨y,h1,h2⟩:=A6.fld ho hlen hf _ _ hi ht yc
  rw[JP (by simp; rw[Ji]; omega)]at h1
  exact⟨y,h1,h2⟩
 | pr ho hi ht yc hr ih =>
  intro hl
  rename_i ty r i off t f
  obtain⟨y,h1,h2⟩:=A6.fld ho hlen hf _ _ hi ht yc
  have qn:cs.length=off+ty.size+r.size:=by
   have:(Ty.pr ty r).size=ty.size+r.size:=rfl
   omega
  obtain⟨z,h3,h4⟩:=ih qn
  refine⟨(y,z),⟨_,cs.drop (off+ty.size),?_,h1,h3⟩,h2,h4⟩
  rw[Ji,←XL]
  exact(JH _ _).symm
theorem U6{t:TypeId}{fs:Ty}{ff:Array Field}(ht:P.underlying t=some (.struct ff))(hc:P.cellsOf t=fs.size)(ho:Q14 P ff fs 0 0):Jz P t (.st fs):=by
 refine⟨by rw[hc,Ji]; rfl,fun hv=>⟨fun _=>?_,fun h=>nomatch h⟩,fun enc w n cs x h=>?_⟩
 ·obtain⟨c,rfl,_⟩:=okWide_struct ht hv; exact⟨_,rfl⟩
 ·obtain⟨xs,m,_,_,hl,hlen,hf⟩:=DataW.trod_struct ht h
  obtain⟨y,h1,h2⟩:=Jcd hlen hf ho (by rw[hl,hc]; simp)
  exact⟨y,by simpa[rt,Jo1]using h1,h2⟩
theorem Jce{ok:Ok}{w:World}{β:Nat→Nat}{ρ:Nat→Value}:Ql2 (Qg β ρ []) [] ok w:=⟨by simp[Qg],.nil,by simp⟩
section
variable {β:Nat→Nat} {ρ:Nat→Value} {ok:Ok} {w:World}
theorem Jq4{t0 t1 t2:Ty}{x0:t0.De}{x1:t1.De}{x2:t2.De}{v0 v1 v2:Value}(h0:isV (rt t0) ok w x0 v0)(h1:isV (rt t1) ok w x1 v1)(h2:isV (rt t2) ok w x2 v2) :
  ∀e∈[(⟨0,[],.d t0 x0⟩:En),⟨1,[],.d t1 x1⟩,⟨2,[],.d t2 x2⟩],∃cs,[v0,v1,v2][e.t]?=some (e.av.val cs)∧cr β ρ ok w false e.av cs:=by
 intro e he
 obtain⟨c0,p0,q0⟩:=Rn (β:=β) (ρ:=ρ) h0
 obtain⟨c1,p1,q1⟩:=Rn (β:=β) (ρ:=ρ) h1
 obtain⟨c2,p2,q2⟩:=Rn (β:=β) (ρ:=ρ) h2
 rcases QX.1 he with rfl | he
 ·exact⟨c0,by rw[q0]; rfl,p0⟩
 rcases QX.1 he with rfl | he
 ·exact⟨c1,by rw[q1]; rfl,p1⟩
 rcases QX.1 he with rfl | he
 ·exact⟨c2,by rw[q2]; rfl,p2⟩
 ·cases he
theorem Jcf{c:Con}{x:c.Γ.De}{y:Qb5 c.Δ}{f:FuncId}{args:Array Value}(h:Calls P f args w (Qws [] w (Q1d c β ρ ok [] w x y)))(hy:Rv (Qcq c.Δ y).env=.d .bool true):Calls P f args w (Ret w (R1 Qtv ok w true)):=by
 refine h.mono ?_
 rintro e w' ⟨v,rfl,⟨β',ρ',_,⟨cs,h1,h2⟩,_⟩,hb⟩
 refine⟨v,rfl,?_,hb⟩
 rw[hy]at h1 h2
 have zj:cs=[.bool true]:=h2
 subst zj
 exact Qpg.2 h1
end
end
end Gx

/- Annotations that follow from the code, but for some pieces. -/
namespace Gx
open Go Go.RowKit Gd
set_option linter.unusedVariables false
inductive Pc where
 | lp (ks ms:List Nat) (Γ:Shp) (exs:Exs)
 | jn (ks ms:List Nat) (exs:Exs)
 | gh (g:Hn)
 | rg (h:Hn)
 | an (a:An)
 | dd
def Qac:List (Nat×Pc)→Nat→List Pc
 | [],_=>[]
 | (k,p)::l,i=>bif Nat.beq k i then p::Qac l i else Qac l i
def Pd:List Pc→An→An
 | [],a=>a
 | .lp ks ms Γ exs::r,a=>.lp ks ms Γ exs (Pd r a)
 | .jn ks ms exs::r,a=>.jn ks ms exs (Pd r a)
 | .gh g::r,a=>.gh g (Pd r a)
 | .rg h::_,_=>.reg h
 | .an a::_,_=>a
 | .dd::_,_=>.gh (.tl .done) .nil
def Jq5:Nat→List Nat→Nat→Nat
 | _,[],i=>i
 | f,k::l,i=>bif Nat.beq f k then i else Jq5 f l (i+1)
def Jgw(K:List Nat):List Oper→Hn
 | []=>.done
 | o::l=>match o.op with
  | .call ⟨.value (.func f),_,_⟩=>.call (Jq5 f K 0) (Jgw K l)
  | _=>.n 1 (Jgw K l)
def Qc0(K:List Nat)(ps:List (Nat×Pc)):Code→Nat→An×Nat
 | .region _ ⟨ops⟩ _,i=>(Pd (Qac ps i) (.reg (Jgw K ops)),i+1)
 | .seq a b,i=>match Qc0 K ps a (i+1)with
  | (x,j)=>match Qc0 K ps b j with
   | (y,k)=>(Pd (Qac ps i) (.two x y),k)
 | .cond _ a b,i=>match Qc0 K ps a (i+1)with
  | (x,j)=>match Qc0 K ps b j with
   | (y,k)=>(Pd (Qac ps i) (.two x y),k)
 | .block _ a,i=>match Qc0 K ps a (i+1)with
  | (x,j)=>(Pd (Qac ps i) (.un x),j)
 | .scope a,i=>match Qc0 K ps a (i+1)with
  | (x,j)=>(Pd (Qac ps i) (.un x),j)
 | .loop a,i=>match Qc0 K ps a (i+1)with
  | (x,j)=>(Pd (Qac ps i) x,j)
 | _,i=>(Pd (Qac ps i) .nil,i+1)
def Jpp(K:List Nat)(ps:List (Nat×Pc))(c:Option Code):An:=match c with
 | some c=>(Qc0 K ps c 0).1
 | none=>.nil
def sL:List Sk→Sk
 | []=>.nil
 | x::l=>.cons x (sL l)
def sDe:List Ty→Nat→List (Nat×Sk)
 | [],_=>[]
 | t::l,i=>(i,.d t)::sDe l (i+1)
def sD(l:List Ty):Shp:=⟨sDe l 0,[]⟩
end Gx

/- Functions of the library, by the kit's contracts; the package-level variables that a statement lists. -/
namespace Gx
open Go Go.RowKit Go.Lib Go.Sort Gd
set_option linter.unusedVariables false
set_option linter.unusedSimpArgs false
set_option linter.constructorNameAsVariable false
section
variable {P:Program} {gl:List (Nat×Σ t:Ty,t.De)}
end
end Gx

/- slices.Clone. -/
namespace Gx
open Go Go.RowKit Gd
set_option linter.unusedVariables false
set_option linter.unusedSimpArgs false
section
variable {P:Program} {Y:TX}
end
end Gx

/- The keys of a map of one's own, in order: slices.Sorted(maps.Keys(m)) at keys that are ints. -/
namespace Gx
open Go Go.RowKit Gd
set_option linter.unusedVariables false
set_option linter.unusedSimpArgs false
def Q6h(x:Int):List Int→List Int
 | []=>[x]
 | y::r=>bif decide (x≤y)then x::y::r else y::Q6h x r
def Qku:List Int→List Int
 | []=>[]
 | x::r=>Q6h x (Qku r)
theorem Qkv(x:Int):∀l:List Int,(Q6h x l).Perm (x::l)
 | []=>.refl _
 | y::r=>by
  unfold Q6h
  cases h:decide (x≤y)
  ·exact((Qkv x r).cons y).trans (.swap ..)
  ·exact .refl _
theorem Oc:∀l:List Int,(Qku l).Perm l
 | []=>.refl _
 | x::r=>(Qkv x _).trans ((Oc r).cons x)
theorem Qmm(x:Int):∀l:List Int,l.Pairwise (·≤·)→(Q6h x l).Pairwise (·≤·)
 | [],_=>by simp[Q6h]
 | y::r,h=>by
  unfold Q6h
  cases hd:decide (x≤y)
  ·have hd:=of_decide_eq_false hd
   refine QG.2 ⟨fun z hz=>?_,Qmm x r (QG.1 h).2⟩
   rcases QX.1 ((Qkv x r).mem_iff.1 hz)with rfl | hz
   ·omega
   ·exact(QG.1 h).1 z hz
  ·have hd:=of_decide_eq_true hd
   refine QG.2 ⟨fun z hz=>?_,h⟩
   rcases QX.1 hz with rfl | hz
   ·exact hd
   ·exact WU hd ((QG.1 h).1 z hz)
theorem Qf1:∀l:List Int,(Qku l).Pairwise (·≤·)
 | []=>.nil
 | x::r=>Qmm x _ (Qf1 r)
theorem Qnh{ss l:List Int}(h:ss.Perm l):ss.mergeSort (fun x y=>decide (x≤y))=Qku l:=by
 refine List.Perm.eq_of_pairwise (le:=fun a b:Int=>a≤b) (fun a b _ _ h1 h2=>Int.le_antisymm h1 h2) ?_ (Qf1 l) (((List.mergeSort_perm _ _).trans h).trans (Oc l).symm)
 exact(List.pairwise_mergeSort (fun a b c h1 h2=>by simp only[decide_eq_true_eq]at *; omega) (fun a b=>by simp only[JS,decide_eq_true_eq]; omega) ss).imp fun h=>of_decide_eq_true h
section
variable {P:Program} {gl:List (Nat×Σ t:Ty,t.De)}
end
end Gx

/- Opening an argument that holds trees. -/
namespace Gx
open Go Go.RowKit Gd Go.WideShapes Go.ChangeShapes
set_option linter.unusedVariables false
set_option linter.unusedSimpArgs false
section
variable {P:Program}
theorem Jq6{τ:Type}{r:RT τ}{t e:TypeId}{g:τ→Prop}(ht:P.underlying t=some (.slice e))(ko:P.cellsOf e=r.size)(zq:0<r.size){n:Nat}
  (he:∀m,m<n→∀{H:Type} (enc:TypeId×Value→H) (w:World) (cs:List Value) (x:DataW H×List MemPlace),DataW.trod enc P w 0 (fun _=>true) true m e cs=some x→∃y,r.rep (lt w) w y cs∧g y)
  {H:Type} (enc:TypeId×Value→H) (w:World) (cs:List Value) (x:DataW H×List MemPlace) (h:DataW.trod enc P w 0 (fun _=>true) true n t cs=some x):∃y,(rSl r).rep (lt w) w y cs∧Qpr g y:=by
 rcases DataW.trod_slice ht h with⟨rfl,_⟩ | ⟨a,len,cap,elems,rest,m,hm,rfl,_,_,hlc,xh,bw,zi,_⟩
 ·exact⟨[],⟨_,rfl,none,0,0,rfl,rfl,QD _,fun h0=>absurd h0 (by omega)⟩,by simp[Qpr]⟩
 ·
  have h1:∀i,i<len→∃y cs,r.rep (lt w) w y cs∧g y∧w.cells? 0 (a.add (i*P.cellsOf e)) (P.cellsOf e)=some cs:=by
   intro i hi
   have:=zi i hi
   obtain⟨z,hz⟩:∃z,elems[i]?=some z:=⟨elems[i]'(by omega),QU (by omega)⟩
   rw[hz]at this
   obtain⟨cs,zr,mc⟩:=ZH.1 this
   obtain⟨y,hy,hg⟩:=he m (by omega) enc w cs z mc
   exact⟨y,cs,hy,hg,zr⟩
  have h2:∀k,k≤len→∃ys:List τ,ys.length=k∧∀i y,ys[i]?=some y→∃cs,r.rep (lt w) w y cs∧g y∧w.cells? 0 (a.add (i*P.cellsOf e)) (P.cellsOf e)=some cs:=by
   intro k
   induction k with
   | zero=>exact fun _=>⟨[],rfl,fun i y h=>by simp at h⟩
   | succ k ih =>
    intro hk
    obtain⟨ys,hl,zp⟩:=ih (by omega)
    obtain⟨y,cs,hy,hg,zr⟩:=h1 k (by omega)
    refine⟨ys++[y],by simp[hl],fun i z hz=>?_⟩
    rcases JL i k with hlt | wx
    ·rw[JF (by omega)]at hz
     exact zp i z hz
    ·rw[JE (by omega)]at hz
     have:i - ys.length=0:=by
      rcases XJ (i - ys.length)with h | h
      ·exact h
      ·rw[ZV (by simp; omega)]at hz; cases hz
     rw[this]at hz
     simp at hz
     subst hz
     have bx:i=k:=by omega
     subst bx
     exact⟨cs,hy,hg,zr⟩
  obtain⟨ys,hl,zp⟩:=h2 len (QD _)
  refine⟨ys,⟨_,rfl,some a,len,cap,rfl,hl,hlc,fun h0=>?_⟩,⟨by omega,fun y hy=>?_⟩⟩
  ·have me:a.spot=none:=by
    obtain⟨y,cs,_,_,zr⟩:=h1 0 h0
    obtain⟨_,hlen,yz⟩:=World.cells?_some zr
    have g0:=yz 0 (by omega)
    obtain⟨c0,uj⟩:∃c0,cs[0]?=some c0:=⟨cs[0]'(by omega),QU (by omega)⟩
    rw[uj]at g0
    simpa[Addr.add]using World.cell?_spot g0
   obtain⟨b,o,sp⟩:=a
   simp only at me
   subst me
   refine⟨b,o,rfl,fun i y hi=>?_⟩
   obtain⟨cs,hy,_,zr⟩:=zp i y hi
   obtain⟨_,hlen,yz⟩:=World.cells?_some zr
   refine⟨cs,hy,fun j u hu=>?_⟩
   have hj:j<P.cellsOf e:=by rw[←hlen]; exact(QK.1 hu).1
   have:=yz j hj
   rw[hu,add_plain,add_plain,ko]at this
   refine⟨?_,this⟩
   show b<w.heap.size
   unfold World.cell? at this
   rcases JL b w.heap.size with hlt | wx
   ·exact hlt
   ·rw[XI wx]at this; cases this
  ·obtain⟨i,hi⟩:=XC hy
   obtain⟨_,_,hg,_⟩:=zp i y hi
   exact hg
theorem Q6i{t s t0 t1 t2:TypeId}{a b c:Ty}{ff:Array Field}{f0 f1 f2 f3:Field}(ht:P.underlying t=some (.struct ff))(hff:ff=#[f0,f1,f2,f3])(hc:P.cellsOf t=4)(h0:Jz P t0 a)(h1:Jz P t1 b)(h2:Jz P t2 c)
  (hs:P.underlying s=some (.slice t)) (zr:P.cellsOf s=1) (ha:a.size=1) (hb:b.size=1) (hd:c.size=1) (q0:f0.type=t0∧f0.offset=0) (q1:f1.type=t1∧f1.offset=1) (q2:f2.type=t2∧f2.offset=2) (q3:f3.type=s∧f3.offset=3) :
  Jz P t (.rose (.pr a (.pr b c))):=by
 have xp:(rt (.rose (.pr a (.pr b c)))).size=4:=by rw[Ji]; simp[Ty.size,ha,hb,hd]
 have key:∀(n:Nat) {H:Type} (enc:TypeId×Value→H) (w:World) (cs:List Value) (x:DataW H×List MemPlace),DataW.trod enc P w 0 (fun _=>true) true n t cs=some x→∃y,(rt (.rose (.pr a (.pr b c)))).rep (lt w) w y cs∧gd (.rose (.pr a (.pr b c))) y:=by
  intro n
  induction n using Nat.strongRecOn with
  | _ n ih =>
   intro H enc w cs x h
   obtain⟨xs,m,hm,_,hl,hlen,hf⟩:=DataW.trod_struct ht h
   subst hff
   obtain⟨y0,e0,g0⟩:=A6.fld h0 hlen hf 0 0 rfl q0.1 q0.2
   obtain⟨y1,e1,g1⟩:=A6.fld h1 hlen hf 1 1 rfl q1.1 q1.2
   obtain⟨y2,e2,g2⟩:=A6.fld h2 hlen hf 2 2 rfl q2.1 q2.2
   have h3:=hf 3 f3 rfl
   have hlen':xs.length=4:=hlen
   rw[QU (by omega),q3.1,q3.2,zr]at h3
   obtain⟨ys,e3,g3⟩:=Jq6 (r:=rt (.rose (.pr a (.pr b c)))) hs (by rw[hc,xp]) (by rw[xp]; omega) (fun k hk=>ih k (by omega)) enc w _ _ h3
   rw[hc]at hl
   match cs,hl with
   | [v0,v1,v2,v3],_ =>
    rw[Ji,ha]at e0
    rw[Ji,hb]at e1
    rw[Ji,hd]at e2
    refine⟨.mk (y0,y1,y2) ys,?_,?_⟩
    ·exact Qz8 (c1:=[v0,v1,v2]) (c2:=[v3]) ⟨[v0],[v1,v2],rfl,e0,[v1],[v2],rfl,e1,e2⟩ e3
    ·exact Jgv ⟨g0,g1,g2⟩ g3
 exact⟨by rw[hc,xp],fun hv=>⟨fun _=>by obtain⟨c,rfl,_⟩:=okWide_struct ht hv; exact⟨_,rfl⟩,fun h=>nomatch h⟩,fun enc w n cs x h=>key n enc w cs x h⟩
end
end Gx

/- What library functions make of rows: slices.SortFunc, Sort, Compact, DeleteFunc. -/
namespace Gx
open Go Go.RowKit Gd
set_option linter.unusedVariables false
set_option linter.unusedSimpArgs false
def kOk(z:Int):Bool:=decide (-2305843009213693952≤z)&&decide (z≤2305843009213693952)
section
variable {α:Type} (key:α→Int)
abbrev Kd:Type:={x:α // kOk (key x)=true}
def cfK(x y:Kd key):Int:=key x.1 - key y.1
def ltK(x y:Kd key):Bool:=decide (cfK key x y<0)
def Qbf(xs:List α):List (Kd key):=xs.filterMap fun x=>if h:kOk (key x)=true then some ⟨x,h⟩else none
theorem Qkw:∀{xs:List α},xs.all (fun x=>kOk (key x))=true→(Qbf key xs).map (·.1)=xs
 | [],_=>rfl
 | x::xs,h=>by
  simp only[ZT,QQ]at h
  have:=Qkw h.2
  unfold Qbf at this ⊢
  rw[XH,dif_pos h.1]
  simp only[JW,this]
def Q6j:List α→Bool
 | x::y::l=>decide (key x≤key y)&&Q6j (y::l)
 | _=>true
theorem Qxz:∀{l:List α},Q6j key l=true→l.Pairwise fun x y=>key x≤key y
 | [],_=>.nil
 | [x],_=>XU _ _
 | x::y::l,h=>by
  simp only[Q6j,QQ,decide_eq_true_eq]at h
  have ih:=Qxz h.2
  refine QG.2 ⟨fun z hz=>?_,ih⟩
  rcases QX.1 hz with rfl | hz
  ·exact h.1
  ·exact WU h.1 ((QG.1 ih).1 z hz)
theorem Jq7:Sort.SWO (ltK key) where
 irrefl x:=by simp[ltK,cfK]
 trans x y z h1 h2:=by
  have h1:=of_decide_eq_true h1
  have h2:=of_decide_eq_true h2
  exact decide_eq_true (by unfold cfK at *; omega)
 ntrans x y z h1 h2:=by
  have h1:=of_decide_eq_false h1
  have h2:=of_decide_eq_false h2
  exact decide_eq_false (by unfold cfK at *; omega)
variable [Inhabited (Kd key)]
def Qkx(xs:List (Kd key)):List (Kd key):=(Sort.pdq (ltK key) xs.toArray 0 xs.length (Lib.bitLen xs.length) true true).toList
def Qf2(xs:List α):Option (List α) :=
 bif xs.all (fun x=>kOk (key x))&&decide (xs.length<4611686018427387904)then(bif Nat.ble xs.length 12&&Q6j key xs then some xs else some ((Qkx key (Qbf key xs)).map (·.1)))else none
theorem Qu6(xs:List (Kd key)):(Qkx key xs).Perm xs∧(Qkx key xs).Pairwise fun x y=>key x.1≤key y.1:=by
 have h:=Sort.pdq_sorts (ltK key) (Jq7 key) xs.toArray 0 xs.toArray.size (Lib.bitLen xs.length) true true (JB _) (QD _) (.inl rfl)
 obtain⟨⟨h1,_,h2⟩,h3⟩:=h
 have ko:xs.toArray.size=xs.length:=by simp
 rw[ko]at h1 h2 h3
 constructor
 ·have e1:∀a:Array (Kd key),a.size=xs.length→(a.extract 0 xs.length).toList=a.toList:=fun a ha=>by
   rw[←ha]; simp
  rw[e1 _ h1,e1 _ ko]at h2
  exact h2
 ·refine VK.2 fun i j hi hj ue=>?_
  have hl:(Qkx key xs).length=xs.length:=by unfold Qkx; rw[XR]; exact h1
  have:=h3 i j (JB _) ue (by omega)
  have this:=of_decide_eq_false this
  unfold cfK at this
  rw[getElem!_pos _ j (by rw[h1]; omega),getElem!_pos _ i (by rw[h1]; omega)]at this
  have e:∀k (hk:k<(Qkx key xs).length),(Qkx key xs)[k]=(Sort.pdq (ltK key) xs.toArray 0 xs.length (Lib.bitLen xs.length) true true)[k]'(by rw[h1]; omega):=fun k hk=>by
   simp[Qkx]
  rw[e i hi,e j hj]
  omega
theorem Qrc{xs ys:List α}(h:Qf2 key xs=some ys):ys.Perm xs∧ys.Pairwise fun x y=>key x≤key y:=by
 unfold Qf2 at h
 cases h1:(xs.all (fun x=>kOk (key x))&&decide (xs.length<4611686018427387904))with
 | false=>rw[h1]at h; cases h
 | true =>
  rw[h1]at h
  simp only[QQ]at h1
  cases h2:(Nat.ble xs.length 12&&Q6j key xs)with
  | true =>
   rw[h2]at h
   obtain rfl:=Option.some.inj h
   simp only[QQ]at h2
   exact⟨.refl _,Qxz key h2.2⟩
  | false =>
   rw[h2]at h
   obtain rfl:=Option.some.inj h
   have hs:=Qu6 key (Qbf key xs)
   refine⟨?_,?_⟩
   ·have:=hs.1.map (·.1)
    rwa[Qkw key h1.1]at this
   ·exact XO.2 hs.2
theorem Qx0{β:Type}[Inhabited β]{lt:β→β→Bool}{d:Array β}(h:∀j,lt d[j+1]! d[j]! = false∨d.size≤j+1)(a:Nat):∀j,j<d.size→Sort.insInner lt a j d=d
 | 0,_=>rfl
 | j+1,hj=>by
  rcases h j with h | h
  ·unfold Sort.insInner; rw[h]; simp
  ·omega
theorem Qiv{β:Type}[Inhabited β]{lt:β→β→Bool}{d:Array β}(h:∀j,lt d[j+1]! d[j]! = false∨d.size≤j+1)(a b:Nat)(hb:b≤d.size):∀(k i:Nat),b - i≤k→Sort.insOuter lt a b i d=d
 | 0,i,hk=>by rw[Sort.insOuter,if_neg (by omega)]
 | k+1,i,hk=>by
  rw[Sort.insOuter]
  split
  ·rw[Qx0 h a i (by omega)]
   exact Qiv h a b hb k (i+1) (by omega)
  ·rfl
theorem Jgx{xs:List (Kd key)}(h12:xs.length≤12)(ha:xs.Pairwise fun x y=>key x.1≤key y.1):Qkx key xs=xs:=by
 unfold Qkx
 rw[Sort.pdq,if_pos (by omega)]
 unfold Sort.insertionSort
 rw[Qiv (fun j=>?_) 0 xs.length (by simp) xs.length 1 (by omega)]
 rcases JL (j+1) xs.length with hj | hj
 ·left
  rw[getElem!_pos xs.toArray (j+1) (by simpa using hj),getElem!_pos xs.toArray j (by simp; omega)]
  have:=VK.1 ha j (j+1) (by omega) hj (by omega)
  refine decide_eq_false ?_
  simp only[cfK,List.getElem_toArray]
  omega
 ·right; simpa using hj
end
instance kdFst {β:Type} [Inhabited β]:Inhabited (Kd fun x:Int×β=>x.1):=⟨⟨(0,default),rfl⟩⟩
def Qu7(xs:List Int):Option (List Int):=bif decide (xs.length<4611686018427387904)then some (Qku xs)else none
def R9(xs:List Int):Option (List Int):=bif decide (xs.length≤9223372036854775807)then some (Lib.compact xs)else none
def Qu8(p:Int→Bool)(xs:List Int):Option (List Int):=bif decide (xs.length≤9223372036854775807)then some (xs.filter fun x=>!p x)else none
end Gx

/- Rows that library functions sort or shorten, by the kit's contracts: slices.SortFunc, Sort, Compact, DeleteFunc. -/
namespace Gx
open Go Go.RowKit Gd
set_option linter.unusedVariables false
set_option linter.unusedSimpArgs false
def Od:Ty→Bool
 | .int _=>true
 | .bool=>true
 | .pr a b=>Od a&&Od b
 | .st a=>Od a
 | _=>false
def Wb:(t:Ty)→t.De→List Value
 | .int k,x=>[.int k x]
 | .bool,x=>[.bool x]
 | .pr a b,x=>Wb a x.1++Wb b x.2
 | .st a,x=>Wb a x
 | _,_=>[]
theorem Qc1:∀{t:Ty} {x:t.De},Od t=true→(Wb t x).length=t.size
 | .int _,x,_=>rfl
 | .bool,x,_=>rfl
 | .pr a b,x,h=>by
  simp only[Od,QQ]at h
  simp[Wb,Ty.size,Qc1 h.1,Qc1 h.2]
 | .st a,x,h=>Qc1 (t:=a) h
theorem Qiw:∀{t:Ty} {x:t.De},∀v∈Wb t x,v.oneCell'=true
 | .int _,x,v,h=>by simp[Wb]at h; subst h; rfl
 | .bool,x,v,h=>by simp[Wb]at h; subst h; rfl
 | .pr a b,x,v,h=>by
  rcases QW.1 (show v∈Wb a x.1++Wb b x.2 from h)with h | h
  ·exact Qiw v h
  ·exact Qiw v h
 | .st a,x,v,h=>Qiw (t:=a) v h
 | .str,x,v,h=>by cases h
 | .sl _,x,v,h=>by cases h
 | .arr _ _,x,v,h=>by cases h
 | .unit,x,v,h=>by cases h
 | .ref,x,v,h=>by cases h
 | .rose _,x,v,h=>by cases h
theorem Mf{ok:Ok}{w:World}:∀{t:Ty} {x:t.De} {cs:List Value},Od t=true→((rt t).rep ok w x cs↔cs=Wb t x)
 | .int _,x,cs,_=>Iff.rfl
 | .bool,x,cs,_=>Iff.rfl
 | .pr a b,x,cs,h=>by
  simp only[Od,QQ]at h
  constructor
  ·rintro⟨c1,c2,e,h1,h2⟩
   rw[e,(Mf h.1).1 h1,(Mf h.2).1 h2]; rfl
  ·rintro rfl
   exact⟨_,_,rfl,(Mf h.1).2 rfl,(Mf h.2).2 rfl⟩
 | .st a,x,cs,h=>Mf (t:=a) h
theorem Qew{u:Ty}(wv:Od u=true){ok:Ok}{w:World}:∀{xs:List u.De} {cs:List Value},Kc (rt u) ok w xs cs↔cs=xs.flatMap (Wb u)
 | [],cs=>by simp[Kc]
 | x::xs,cs=>by
  constructor
  ·rintro⟨c1,c2,e,h1,h2⟩
   rw[e,(Mf wv).1 h1,(Qew wv).1 h2]; rfl
  ·rintro rfl
   exact⟨_,_,rfl,(Mf wv).2 rfl,(Qew wv).2 rfl⟩
theorem Qc2{u:Ty}(wv:Od u=true):∀xs:List u.De,(xs.flatMap (Wb u)).length=xs.length*u.size
 | []=>by simp
 | x::xs=>by simp[XE,Qc1 wv,Qc2 wv xs,QP,KS]
theorem Qoz{u:Ty}(wv:Od u=true){v:Value}{e:TypeId}{ys:List u.De}{w:World}{ok:Ok}(hl:Zv v=ys.length)(h:w.ownsRowS 0 e u.size v ys.length (ys.flatMap (Wb u))):(ml v e (rt u) ys).p ok w:=by
 refine⟨hl,_,?_,(Qew wv).2 rfl⟩
 rw[hl,Ji]; exact h
theorem Qu9{u:Ty}(wv:Od u=true){v0 v:Value}{e:TypeId}{xs:List u.De}{ok:Ok}{w:World}(h:(ml v0 e (rt u) xs).p ok w)(hz:zal v v0) :
  (xs=[]∧v0=.slice none 0 0∧∃p,v=.slice p 0 0) ∨
  (∃g cap cur fz,v=v0∧v0=.slice (some ⟨g,0,none⟩) xs.length cap∧w.heap[g]?=some (.cells cur e fz)∧Qwo fz cur.size∧xs.length≤cap∧cap≤maxLen∧cap*u.size≤cur.size∧cur.toList.take (xs.length*u.size)=xs.flatMap (Wb u)):=by
 obtain⟨hl,cs,kb,hr⟩:=h
 have zr:=(Qew wv).1 hr
 rw[Ji]at kb
 have uc:v0=.slice none 0 0→xs=[]:=fun h0=>by
  subst h0
  exact XZ.1 (by rw[←hl]; rfl)
 rcases kb.2 with⟨hv,h0⟩ | ⟨g,cap,cur,fz,hv,_,hg,yk,mf,mg,fb,ht⟩
 ·left
  refine⟨uc hv,hv,?_⟩
  rcases hz with rfl | ⟨_,A,rfl⟩
  ·exact⟨none,hv⟩
  ·exact⟨A,rfl⟩
 ·right
  rcases hz with rfl | ⟨hn,A,rfl⟩
  ·rw[hl]at hv mf ht
   exact⟨g,cap,cur,fz,rfl,hv,hg,yk,mf,mg,fb,ht.trans zr⟩
  ·rw[hn]at hv; cases hv
theorem Qva{w:World}{g:Nat}{cur:Array Value}{e:TypeId}{fz:Nat×Nat}(hg:w.heap[g]?=some (.cells cur e fz))(yk:Qwo fz cur.size){F:List Value}(hF:cur.toList.take F.length=F)(hle:F.length≤cur.size):Sort.Holds id w g 0 F.toArray:=by
 intro j hj
 have n0:j<F.length:=by simpa using hj
 have hjc:j<cur.size:=by omega
 have h1:F[j]?=cur[j]?:=by
  have:(cur.toList.take F.length)[j]?=F[j]?:=by rw[hF]
  rw[JQ n0]at this
  rw[←this]; simp
 have h2:F.toArray[j]! = cur[j]:=by
  rw[getElem!_pos F.toArray j hj]
  rw[QU n0,ZW hjc]at h1
  simpa using Option.some.inj h1
 rw[h2,QE]
 refine⟨by simp[World.cell?,hg,hjc],?_⟩
 rcases yk with rfl | rfl
 ·simp[World.frozen?,hg]
 ·simp only[World.frozen?,hg,VM,decide_eq_false_iff_not]
  left
  omega
theorem Qrd{w:World}{g n:Nat}{cur:Array Value}{e:TypeId}{fz:Nat×Nat}(hg:w.heap[g]?=some (.cells cur e fz)){F:List Value}(hle:F.length≤cur.size)(os:Array Obj) :
  ∃cur',(Sort.grow (Sort.putRow id (Sort.ahead w n) g 0 F.toArray) os).heap[g]?=some (.cells cur' e fz)∧cur'.size=cur.size∧cur'.toList.take F.length=F:=by
 have hlt:=Yi hg
 refine⟨Sort.putCells id 0 F.toArray cur,?_,by simp[Sort.putCells],?_⟩
 ·rw[Sort.heap_grow_old _ _ (by rw[Sort.size_putRow]; exact hlt)]
  unfold Sort.putRow Sort.mapBlock
  show(Array.modify w.heap g _)[g]?=_
  rw[ZQ,if_pos rfl,hg]; rfl
 ·refine ZU fun j=>?_
  rcases JL j F.length with hj | hj
  ·rw[JQ hj]
   have hjc:j<cur.size:=by omega
   simp only[Sort.putCells,ZM,VO,ZW hjc,XG]
   rw[if_pos ⟨JB _,by simpa using hj⟩,QU hj]
   simp[getElem!_pos,hj]
  ·rw[List.getElem?_take_eq_none hj,ZV hj]
theorem Q6k{w:World}{g n:Nat}{F:Array Value}(os:Array Obj){k:Nat}(hk:k<w.heap.size)(k8:k≠g):(Sort.grow (Sort.putRow id (Sort.ahead w n) g 0 F) os).heap[k]?=w.heap[k]?:=by
 rw[Sort.heap_grow_old _ _ (by rw[Sort.size_putRow]; exact hk)]
 unfold Sort.putRow Sort.mapBlock
 show(Array.modify w.heap g _)[k]?=_
 rw[ZQ,if_neg (Ne.symm k8)]
theorem Qvb{w:World}{g n:Nat}{F:Array Value}{L:List Nat}(os:Array Obj)(hg:g∈L):Ud L w.heap.size w (Sort.grow (Sort.putRow id (Sort.ahead w n) g 0 F) os) :=
 ⟨rfl,rfl,rfl,by rw[Sort.size_grow,Sort.size_putRow]; exact Nat.le_add_right _ _,fun k hk hn=>Q6k os hk fun h=>hn (h▸hg)⟩
section
variable {P:Program} {gl:List (Nat×Σ t:Ty,t.De)}
theorem Qvc{c:Con}{e:TypeId}{u:Ty}(wv:Od u=true)(fx:c.Γ.De→List u.De)(fy:Qb5 c.Δ→List u.De){ev:List En}{vx:List Value}(hro:c.ro=[])
  (hm:∀x,enc c.Γ x=⟨⟨0,[],.s 5000⟩::ev,[(5000,.row e u (fx x))]⟩) (zz:∀y,Qcq c.Δ y=⟨[],[(5000,.row e u (fy y))]⟩) (hle:c.Γ.env.length=vx.length+1)
  (yx:∀(β:Nat→Nat) (ρ:Nat→Value) (ok:Ok) (w:World) (vs:List Value),vs.length=vx.length+1→(∀e∈ev,∃cs,vs[e.t]?=some (e.av.val cs)∧cr β ρ ok w false e.av cs)→∃v,vs=v::vx)
  (nk:∀x y,fx x=[]→c.fn x=some y→fy y=[])
  (hcn:∀p w,Calls P c.f ⟨.slice p 0 0::vx⟩ w fun e w'=>e=.returned (.tuple #[])∧w'=w)
  (zr:∀x y,c.fn x=some y→∀g cap w,Sort.Holds id w g 0 ((fx x).flatMap (Wb u)).toArray→g<w.heap.size→(fx x).length≤cap→Calls P c.f ⟨.slice (some ⟨g,0,none⟩) (fx x).length cap::vx⟩ w fun e w' =>
   e=.returned (.tuple #[])∧(fy y).length=(fx x).length∧∃n os,w'=Sort.grow (Sort.putRow id (Sort.ahead w n) g 0 ((fy y).flatMap (Wb u)).toArray) os):Qfy P gl c:=by
 intro ok w L β ρ x y vs kj hG hlen hL zx hy
 rw[hm x]at hL zx
 have hO:Ql2 [ml (ρ 5000) e (rt u) (fx x)] L ok w:=hL
 have h0:=hO.1 _ (.head _)
 obtain⟨v,rfl⟩:=yx β ρ ok w vs (by rw[hlen,hle]) fun e he=>zx e (.tail _ he)
 obtain⟨cs,q1,q2⟩:=zx _ (.head _)
 obtain⟨⟨v1,rfl,hz⟩,_⟩:(∃v,cs=[v]∧zal v (ρ 5000))∧∃A n c,ρ 5000=.slice A n c:=q2
 obtain rfl:v=v1:=Option.some.inj (show some v=some v1 from q1)
 have ke:∀ρ':Nat→Value,Qg β ρ' ((Qcq c.Δ y).mem++roM c x)=[ml (ρ' 5000) e (rt u) (fy y)]:=fun ρ'=>by
  have:roM c x=[]:=by unfold roM; rw[hro,hm x]; rfl
  rw[this,zz y]; rfl
 have vb:∃cs,(Value.tuple #[])=(Rv (Qcq c.Δ y).env).val cs∧∀β' ρ' ok' w',cr β' ρ' ok' w' false (Rv (Qcq c.Δ y).env) cs:=by
  rw[zz y]
  exact⟨[.tuple #[]],rfl,fun _ _ _ _=>⟨[],rfl,rfl⟩⟩
 obtain⟨cs,r1,r2⟩:=vb
 rcases Qu9 wv h0.1 hz with⟨hx,xq,p,rfl⟩ | ⟨g,cap,cur,fz,rfl,xq,hg,yk,k1,k2,k3,k4⟩
 ·refine(hcn p w).mono ?_
  rintro e1 w' ⟨rfl,rfl⟩
  have hyy:=nk x y hx hy
  refine⟨_,rfl,⟨β,ρ,fun i hi=>⟨rfl,rfl⟩,⟨cs,r1,r2 _ _ _ _⟩,?_,?_⟩,Ud.refl _ _ _⟩
  ·rw[ke]
   intro t ht
   rcases JR.1 ht with rfl
   refine⟨Qoz wv (by rw[xq,hyy]; rfl) (by rw[xq,hyy]; exact World.ownsRowS_nil _ _ _ _),fun g hg=>?_⟩
   rw[show(ml (ρ 5000) e (rt u) (fy y)).blks g=((ρ 5000).ownBlock=some g)from rfl,xq]at hg
   cases hg
  ·rw[ke]; exact XU _ _
 ·have hgL:g∈L:=h0.2.1 g (by show(ρ 5000).ownBlock=some g; rw[xq]; rfl)
  have qi:=Qc2 wv (fx x)
  have lz:(fx x).length*u.size≤cur.size:=QN (JG _ k1) k3
  have xd:=zr x y hy g cap w (Qva hg yk (by rw[qi]; exact k4) (by rw[qi]; exact lz)) (Yi hg) k1
  rw[←xq]at xd
  refine xd.mono ?_
  rintro e1 w' ⟨rfl,ph,n,os,rfl⟩
  have l4:=Qc2 wv (fy y)
  obtain⟨cur',c1,c2,c3⟩:=Qrd (n:=n) hg (F:=(fy y).flatMap (Wb u)) (by rw[l4,ph]; exact lz) os
  refine⟨_,rfl,⟨β,ρ,fun i hi=>⟨rfl,rfl⟩,⟨cs,r1,r2 _ _ _ _⟩,?_,?_⟩,Qvb os hgL⟩
  ·rw[ke]
   intro t ht
   rcases JR.1 ht with rfl
   refine⟨Qoz wv (by rw[xq]; exact ph.symm) ?_,fun g' yi=>.inr ?_⟩
   ·exact⟨l4,.inr ⟨g,cap,cur',fz,by rw[xq,ph],JB _,c1,by rw[c2]; exact yk,by omega,k2,by rw[c2]; exact k3,by rw[←l4]; exact c3⟩⟩
   ·rw[show(ml (ρ 5000) e (rt u) (fy y)).blks g'=((ρ 5000).ownBlock=some g')from rfl,xq]at yi
    rw[show(Value.slice (some ⟨g,0,none⟩) (fx x).length cap).ownBlock=some g from rfl]at yi
    exact Option.some.inj yi▸hgL
  ·rw[ke]; exact XU _ _
theorem Qvd{c:Con}{e:TypeId}{u:Ty}(wv:Od u=true)(fx:c.Γ.De→List u.De)(fy:Qb5 c.Δ→List u.De){ev:List En}{vx:List Value}(hro:c.ro=[])
  (hm:∀x,enc c.Γ x=⟨⟨0,[],.s 5000⟩::ev,[(5000,.row e u (fx x))]⟩) (zz:∀y,Qcq c.Δ y=⟨[⟨0,[],.s 0⟩],[(0,.row e u (fy y))]⟩) (hle:c.Γ.env.length=vx.length+1) (hid:c.Γ.mem.map Prod.fst=[5000])
  (yx:∀(β:Nat→Nat) (ρ:Nat→Value) (ok:Ok) (w:World) (vs:List Value),vs.length=vx.length+1→(∀e∈ev,∃cs,vs[e.t]?=some (e.av.val cs)∧cr β ρ ok w false e.av cs)→∃v,vs=v::vx)
  (nk:∀x y,fx x=[]→c.fn x=some y→fy y=[])
  (hcn:∀p w,Calls P c.f ⟨.slice p 0 0::vx⟩ w fun e w'=>e=.returned (.slice p 0 0)∧w'=w)
  (zr:∀x y,c.fn x=some y→∀g cap w,Sort.Holds id w g 0 ((fx x).flatMap (Wb u)).toArray→g<w.heap.size→(fx x).length≤cap→Calls P c.f ⟨.slice (some ⟨g,0,none⟩) (fx x).length cap::vx⟩ w fun e w' =>
   e=.returned (.slice (some ⟨g,0,none⟩) (fy y).length cap)∧(fy y).length≤(fx x).length∧∃n os zs,zs.length+(fy y).length*u.size≤(fx x).length*u.size∧w'=Sort.grow (Sort.putRow id (Sort.ahead w n) g 0 ((fy y).flatMap (Wb u)++zs).toArray) os):Qfy P gl c:=by
 intro ok w L β ρ x y vs kj hG hlen hL zx hy
 rw[hm x]at hL zx
 have hO:Ql2 [ml (ρ 5000) e (rt u) (fx x)] L ok w:=hL
 have h0:=hO.1 _ (.head _)
 obtain⟨v,rfl⟩:=yx β ρ ok w vs (by rw[hlen,hle]) fun e he=>zx e (.tail _ he)
 obtain⟨cs,q1,q2⟩:=zx _ (.head _)
 obtain⟨⟨v1,rfl,hz⟩,_⟩:(∃v,cs=[v]∧zal v (ρ 5000))∧∃A n c,ρ 5000=.slice A n c:=q2
 obtain rfl:v=v1:=Option.some.inj (show some v=some v1 from q1)
 have ke:∀ρ':Nat→Value,Qg β ρ' ((Qcq c.Δ y).mem++roM c x)=[ml (ρ' 0) e (rt u) (fy y)]:=fun ρ'=>by
  have:roM c x=[]:=by unfold roM; rw[hro,hm x]; rfl
  rw[this,zz y]; rfl
 have xg:∀r:Value,agP (c.Γ.mem.map Prod.fst) β β ρ (fun i=>if i=0 then r else ρ i):=fun r i hi=>by
  rw[hid]at hi
  rcases JR.1 hi with rfl
  exact⟨rfl,rfl⟩
 rcases Qu9 wv h0.1 hz with⟨hx,xq,p,rfl⟩ | ⟨g,cap,cur,fz,rfl,xq,hg,yk,k1,k2,k3,k4⟩
 ·refine(hcn p w).mono ?_
  rintro e1 w' ⟨rfl,rfl⟩
  have hyy:=nk x y hx hy
  refine⟨_,rfl,⟨β,_,xg (.slice none 0 0),⟨[.slice p 0 0],?_,?_⟩,?_,?_⟩,Ud.refl _ _ _⟩
  ·rw[zz y]; rfl
  ·rw[zz y]
   exact⟨⟨_,rfl,.inr ⟨rfl,_,rfl⟩⟩,none,0,0,rfl⟩
  ·rw[ke]
   intro t ht
   rcases JR.1 ht with rfl
   refine⟨Qoz wv (by rw[hyy]; rfl) (by rw[hyy]; exact World.ownsRowS_nil _ _ _ _),fun g hg=>?_⟩
   cases hg
  ·rw[ke]; exact XU _ _
 ·have hgL:g∈L:=h0.2.1 g (by show(ρ 5000).ownBlock=some g; rw[xq]; rfl)
  have qi:=Qc2 wv (fx x)
  have lz:(fx x).length*u.size≤cur.size:=QN (JG _ k1) k3
  have xd:=zr x y hy g cap w (Qva hg yk (by rw[qi]; exact k4) (by rw[qi]; exact lz)) (Yi hg) k1
  rw[←xq]at xd
  refine xd.mono ?_
  rintro e1 w' ⟨rfl,ph,n,os,zs,xf,rfl⟩
  have l4:=Qc2 wv (fy y)
  obtain⟨cur',c1,c2,c3⟩:=Qrd (n:=n) hg (F:=(fy y).flatMap (Wb u)++zs) (by rw[QI,l4]; omega) os
  have c4:cur'.toList.take ((fy y).length*u.size)=(fy y).flatMap (Wb u):=by
   have:=congrArg (List.take ((fy y).length*u.size)) c3
   rw[ZP,ZY (by rw[QI,l4]; omega),←l4,ZZ]at this
   rw[←l4]; exact this
  refine⟨_,rfl,⟨β,_,xg (.slice (some ⟨g,0,none⟩) (fy y).length cap),⟨[.slice (some ⟨g,0,none⟩) (fy y).length cap],?_,?_⟩,?_,?_⟩,Qvb os hgL⟩
  ·rw[zz y]; rfl
  ·rw[zz y]
   exact⟨⟨_,rfl,.inl rfl⟩,_,_,_,rfl⟩
  ·rw[ke]
   intro t ht
   rcases JR.1 ht with rfl
   refine⟨Qoz wv rfl ?_,fun g' yi=>.inr ?_⟩
   ·exact⟨l4,.inr ⟨g,cap,cur',fz,rfl,JB _,c1,by rw[c2]; exact yk,by omega,k2,by rw[c2]; exact k3,c4⟩⟩
   ·have yi:(some g:Option Nat)=some g':=yi
    exact Option.some.inj yi▸hgL
  ·rw[ke]; exact XU _ _
end
theorem Qmn{α:Type}{enc:α→List Value}{k:Nat}(hk:∀x,(enc x).length=k):∀(l:List α) (i c:Nat),c<k→(l.flatMap enc)[i*k+c]?=(l[i]?).bind fun x=>(enc x)[c]?
 | [],i,c,_=>by simp
 | x::l,0,c,h=>by
  rw[XE,JF (by rw[hk]; omega)]; simp
 | x::l,i+1,c,h=>by
  have e:(i+1)*k+c=k+(i*k+c):=by rw[QP]; omega
  rw[XE,JE (by rw[hk,e]; omega),hk,e,ZE,Qmn hk l i c h]; simp
theorem Qmo{α:Type}{enc:α→List Value}{k:Nat}(hk:∀x,(enc x).length=k):∀l:List α,(l.flatMap enc).length=l.length*k
 | []=>by simp
 | x::l=>by simp[XE,hk,Qmo hk l,QP,KS]
theorem Qre{α:Type}[Inhabited α]{enc:α→List Value}{k:Nat}(hk:∀x,(enc x).length=k)(l:List α):Sort.flatK enc k l.toArray=(l.flatMap enc).toArray:=by
 have hlen:=Qmo hk l
 refine Sort.ext_get! (by simp[hlen]) fun t ht=>?_
 have zb:t<l.length*k:=by simpa using ht
 have k0:0<k:=by
  rcases XJ k with h | h
  ·subst h; simp at zb
  ·exact h
 have e2:=Qmn hk l (t / k) (t % k) (KT _ k0)
 have hi:t / k<l.length:=Nat.div_lt_of_lt_mul (by rwa[Nat.mul_comm])
 have hc:t % k<(enc l[t / k]).length:=by rw[hk]; exact KT _ k0
 rw[Nat.div_add_mod',QU hi,QB,QU hc,QU (by rw[hlen]; exact zb)]at e2
 rw[Sort.get_flatK enc k l.toArray t (by simpa using zb)]
 have e3:l.toArray[t / k]! = l[t / k]:=by rw[getElem!_pos l.toArray _ (by simpa using hi)]; simp
 rw[e3,getElem!_pos (enc l[t / k]) _ hc,getElem!_pos (l.flatMap enc).toArray t (by simp[hlen]; exact zb)]
 exact(Option.some.inj e2).symm
theorem Qgw{α:Type}[Inhabited α](enc:α→Value)(w:World)(g off:Nat)(l:List α):Sort.putRow enc w g off l.toArray=Sort.putRow id w g off (l.map enc).toArray:=by
 unfold Sort.putRow
 congr 1
 funext c
 unfold Sort.putCells
 refine Array.ext_getElem? fun k=>?_
 simp only[VO,XW,KJ]
 cases c[k]? with
 | none=>rfl
 | some v =>
  simp only[XG]
  by_cases hk:off≤k∧k<off+l.length
  ·rw[if_pos hk,if_pos hk]
   have h1:k - off<l.length:=by omega
   rw[getElem!_pos l.toArray _ (by simpa using h1),getElem!_pos (l.map enc).toArray _ (by simpa using h1)]
   simp
  ·rw[if_neg hk,if_neg hk]
theorem Qky{α:Type}[Inhabited α]{enc:α→Value}{w:World}{g off:Nat}{l:List α}(h:Sort.Holds id w g off (l.map enc).toArray):Sort.Holds enc w g off l.toArray:=by
 intro j hj
 have n0:j<l.length:=by simpa using hj
 have:=h j (by simpa using n0)
 rw[getElem!_pos (l.map enc).toArray _ (by simpa using n0)]at this
 rw[getElem!_pos l.toArray _ hj]
 simpa using this
section
variable {P:Program} {ρ:Shelf.Ren}
open Go.Proofs in
theorem Q15{u:Ty}(wv:Od u=true)(key:u.De→Int)[Inhabited (Kd key)](L:SlLaysF0.n6 P ρ)(aE:∀w,(isAgg (ρ.t 24)).run P w=.ok true w)(zE:∀w,(Go.sizeOf (ρ.t 24)).run P w=.ok u.size w){g:Nat}
  (eg:∀args w,(callFunc g args).run P w=.ok (.enter g args) w)
  (hclo:∀(x y:u.De) (W:World),Calls P g #[.agg (Wb u x).toArray,.agg (Wb u y).toArray] W fun e w'=>e=.returned (.int .i64 (IntKind.wrap .i64 (key x - key y)))∧∃q os',w'=Sort.grow (W.drewN q) os')
  {xs ys:List u.De} (hs:Qf2 key xs=some ys) (blk cap:Nat) (w:World) (hH:Sort.Holds id w blk 0 (xs.flatMap (Wb u)).toArray) (hblk:blk<w.heap.size) :
  Calls P (ρ.f 6) #[.slice (some ⟨blk,0,none⟩) xs.length cap,.func (.func g) #[] #[]] w fun e w'=>e=.returned (.tuple #[])∧ys.length=xs.length∧∃n os,w'=Sort.grow (Sort.putRow id (Sort.ahead w n) blk 0 (ys.flatMap (Wb u)).toArray) os:=by
 unfold Qf2 at hs
 cases h1:(xs.all (fun x=>kOk (key x))&&decide (xs.length<4611686018427387904))with
 | false=>rw[h1]at hs; cases hs
 | true =>
  rw[h1]at hs
  simp only[QQ,decide_eq_true_eq]at h1
  have hv:=Qkw key h1.1
  have ej:(Qbf key xs).length=xs.length:=by rw[←congrArg List.length hv]; simp
  have zp:ys=(Qkx key (Qbf key xs)).map (·.1):=by
   cases h2:(Nat.ble xs.length 12&&Q6j key xs)with
   | true =>
    rw[h2]at hs
    obtain rfl:=Option.some.inj hs
    simp only[QQ]at h2
    have ha:=Qxz key h2.2
    have h12:=QF h2.1
    rw[Jgx key (by omega),hv]
    rw[←hv]at ha
    exact(XO (R:=fun x y=>key x≤key y) (f:=fun x:Kd key=>x.1)).1 ha
   | false =>
    rw[h2]at hs
    exact(Option.some.inj hs).symm
  let enc:Kd key→List Value:=fun x=>Wb u x.1
  have hk:∀x,(enc x).length=u.size:=fun x=>Qc1 wv
  have bc:∀l:List (Kd key),(l.map (·.1)).flatMap (Wb u)=l.flatMap enc:=fun l=>by rw[List.flatMap_map]
  have hw:∀x y:Kd key,IntKind.wrap .i64 (key x.1 - key y.1)=cfK key x y:=fun x y=>by
   have hx:=x.2
   have hy:=y.2
   simp only[kOk,QQ,decide_eq_true_eq]at hx hy
   exact Q2 (by omega) (by omega)
  have hcon:=AnyQ.slices_SortFunc_eq L u.size aE zE enc hk (fun x v hv=>Qiw v hv) (cfK key) (Jq7 key) g #[] blk 0 cap (Qbf key xs).toArray w eg
   (fun m os dk _ x y=>by
    have:=hclo x.1 y.1 (sortWorldK enc u.size w blk 0 m dk os)
    rw[hw]at this
    exact this)
   (by unfold Sort.HoldsK; rw[Qre hk,←bc,hv]; exact hH) hblk (by simp[ej]; exact h1.2)
  have ko:(Qbf key xs).toArray.size=xs.length:=by simp[ej]
  rw[ko]at hcon
  refine hcon.mono ?_
  rintro e w' ⟨rfl,n,os,rfl⟩
  have hp:=Qu6 key (Qbf key xs)
  refine⟨rfl,by rw[zp,KJ,hp.1.length_eq,ej],n,os,?_⟩
  unfold sortWorldK Sort.putRowK
  have e:Sort.pdq (ltK key) (Qbf key xs).toArray 0 xs.length (Lib.bitLen xs.length) true true=(Qkx key (Qbf key xs)).toArray:=by
   unfold Qkx; rw[ej]
  show Sort.grow (Sort.putRow id (Sort.ahead w n) blk 0 (Sort.flatK enc u.size (Sort.pdq (ltK key) (Qbf key xs).toArray 0 xs.length (Lib.bitLen xs.length) true true))) os=_
  rw[e,Qre hk,←bc,zp]
end
section
variable {P:Program} {ρ:Shelf.Ren}
theorem Qkz(l:List Int):(l.flatMap (Wb (.int .i64)))=l.map (Value.int .i64):=by
 induction l with
 | nil=>rfl
 | cons x l ih=>rw[XE,ih]; rfl
theorem Q16(L:Go.Proofs.SlLaysM.n5 P ρ){xs ys:List Int}(hs:Qu7 xs=some ys)(blk cap:Nat)(w:World)(hH:Sort.Holds id w blk 0 (xs.flatMap (Wb (.int .i64))).toArray)(hblk:blk<w.heap.size) :
  Calls P (ρ.f 5) #[.slice (some ⟨blk,0,none⟩) xs.length cap] w fun e w'=>e=.returned (.tuple #[])∧ys.length=xs.length∧∃n os,w'=Sort.grow (Sort.putRow id (Sort.ahead w n) blk 0 (ys.flatMap (Wb (.int .i64))).toArray) os:=by
 obtain⟨h1,h2⟩:=bvT hs
 have hy:=(Option.some.inj h2).symm
 rw[Qkz]at hH ⊢
 refine(Go.Proofs.AnyM.slices_Sort_int L blk 0 cap xs w (Qky hH) hblk (of_decide_eq_true h1)).mono ?_
 rintro e w' ⟨rfl,n,os,rfl⟩
 rw[Qgw,Qnh (.refl _),←hy]
 refine⟨rfl,?_,n,os,rfl⟩
 rw[hy]
 exact(Oc xs).length_eq
theorem Qrf(L:Go.Proofs.Lays2.n20 P ρ){xs ys:List Int}(hs:R9 xs=some ys)(blk cap:Nat)(w:World)(hH:Sort.Holds id w blk 0 (xs.flatMap (Wb (.int .i64))).toArray)(hblk:blk<w.heap.size)(vo:xs.length≤cap) :
  Calls P (ρ.f 20) #[.slice (some ⟨blk,0,none⟩) xs.length cap] w fun e w'=>e=.returned (.slice (some ⟨blk,0,none⟩) ys.length cap)∧ys.length≤xs.length ∧
   ∃n os zs,zs.length+ys.length*1≤xs.length*1∧w'=Sort.grow (Sort.putRow id (Sort.ahead w n) blk 0 (ys.flatMap (Wb (.int .i64))++zs).toArray) os:=by
 obtain⟨h1,h2⟩:=bvT hs
 have hy:=(Option.some.inj h2).symm
 rw[Qkz]at hH ⊢
 have hle:(Lib.compact xs).length≤xs.length:=by
  unfold Lib.compact Lib.compactUpTo
  rw[KJ]
  exact QN (ZJ _ _) (by simp)
 refine(Go.Proofs.Any.slices_Compact_int L blk 0 cap xs w (Qky hH) (of_decide_eq_true h1) vo).mono ?_
 rintro e w' ⟨rfl,q,rfl⟩
 rw[Qgw,JK,hy]
 exact⟨rfl,hle,q,#[],(List.replicate (xs.length - (Lib.compact xs).length) (0:Int)).map (Value.int .i64),by rw[KJ,KH]; omega,by rw[Sort.grow_empty]⟩
open Go.Proofs in
theorem Qs4(L:SlLaysH.n10 P ρ)(v23:∀w,(zeroValue (ρ.t 23)).run P w=.ok (.int .i64 0) w){g:Nat}{p:Int→Bool}(eg:∀args w,(callFunc g args).run P w=.ok (.enter g args) w)
  (hp:∀(x:Int) (W:World),Calls P g #[.int .i64 x] W fun e w'=>e=.returned (.bool (p x))∧∃q,w'=W.drewN q) {xs:List Int} (hl:xs.length≤9223372036854775807) (blk cap:Nat) (w:World) (hH:Sort.Holds id w blk 0 (xs.flatMap (Wb (.int .i64))).toArray) (hblk:blk<w.heap.size) (vo:xs.length≤cap) :
  Calls P (ρ.f 10) #[.slice (some ⟨blk,0,none⟩) xs.length cap,.func (.func g) #[] #[]] w fun e w'=>e=.returned (.slice (some ⟨blk,0,none⟩) (xs.filter fun x=>!p x).length cap)∧(xs.filter fun x=>!p x).length≤xs.length ∧
   ∃n os zs,zs.length+(xs.filter fun x=>!p x).length*1≤xs.length*1∧w'=Sort.grow (Sort.putRow id (Sort.ahead w n) blk 0 ((xs.filter fun x=>!p x).flatMap (Wb (.int .i64))++zs).toArray) os:=by
 rw[Qkz]at hH ⊢
 have hle:=ZJ (fun x=>!p x) xs
 have hg:∀(x:Int) (W:World),FnGives P g #[] #[Value.int .i64 x] (.bool (p x)) W:=fun x W=>hp x W
 have h:=AnyE.slices_DeleteFunc L (Value.int .i64) (fun _=>rfl) p g #[] eg 0 v23 blk 0 cap xs.toArray w (fun W x _=>hg x W) (fun n os dk x _=>hg x _) (Qky hH) (by simpa using hl) (by simpa using vo)
 have ko:xs.toArray.size=xs.length:=by simp
 rw[ko]at h
 refine h.mono ?_
 rintro e w' ⟨rfl,q,rfl⟩
 rw[Qgw,JK]
 exact⟨rfl,hle,q,#[],(List.replicate (xs.length - (xs.filter fun x=>!p x).length) (0:Int)).map (Value.int .i64),by rw[KJ,KH]; omega,by rw[Sort.grow_empty]⟩
open Go.Proofs in
theorem Q17(L:SlLaysH.n10 P ρ)(v23:∀w,(zeroValue (ρ.t 23)).run P w=.ok (.int .i64 0) w){g:Nat}{p:Int→Bool}(eg:∀args w,(callFunc g args).run P w=.ok (.enter g args) w)
  (hp:∀(x:Int) (W:World),Calls P g #[.int .i64 x] W fun e w'=>e=.returned (.bool (p x))∧∃q,w'=W.drewN q) {xs ys:List Int} (hs:Qu8 p xs=some ys) (blk cap:Nat) (w:World) (hH:Sort.Holds id w blk 0 (xs.flatMap (Wb (.int .i64))).toArray) (hblk:blk<w.heap.size) (vo:xs.length≤cap) :
  Calls P (ρ.f 10) #[.slice (some ⟨blk,0,none⟩) xs.length cap,.func (.func g) #[] #[]] w fun e w'=>e=.returned (.slice (some ⟨blk,0,none⟩) ys.length cap)∧ys.length≤xs.length ∧
   ∃n os zs,zs.length+ys.length*1≤xs.length*1∧w'=Sort.grow (Sort.putRow id (Sort.ahead w n) blk 0 (ys.flatMap (Wb (.int .i64))++zs).toArray) os:=by
 obtain⟨h1,h2⟩:=bvT hs
 have hy:=(Option.some.inj h2).symm
 rw[hy]
 exact Qs4 L v23 eg hp (of_decide_eq_true h1) blk cap w hH hblk vo
open Go.Proofs in
theorem Qs5(L:SlLaysH.n10 P ρ)(a:Option Addr)(w:World){fv:Value}:Calls P (ρ.f 10) #[.slice a 0 0,fv] w fun e w'=>e=.returned (.slice a 0 0)∧w'=w:=by
 have mixed:=L.mixed; have t0:=L.t0; have a0:=L.a0; have z0:=L.z0; have v0:=L.v0; have t3:=L.t3; have a3:=L.a3; have z3:=L.z3; have v3:=L.v3; have t4:=L.t4; have a4:=L.a4; have z4:=L.z4; have v4:=L.v4; have t22:=L.t22; have a22:=L.a22; have z22:=L.z22; have v22:=L.v22; have a23:=L.a23; have z23:=L.z23; have t25:=L.t25; have a25:=L.a25; have z25:=L.z25; have v25:=L.v25
 have e6:∀args w,(callFunc (ρ.f 6) args).run P w=.ok (.enter (ρ.f 6) args) w:=L.f6.enters rfl
 obtain⟨_,_,FG⟩:=L.f10
 go_enter FG,SlBodyH.n10_ntmps ρ
 go_wp2_with (go_at_fn (ρ.f 6); refine(AnyE.slices_IndexFunc_empty { L with } a 0 fv _).mono ?_; rintro e w' ⟨rfl,rfl⟩)
 go_ret
 exact⟨rfl,rfl⟩
end
theorem Jcg{α:Type}{key:α→Int}[Inhabited (Kd key)]{xs ys:List α}(h:xs=[])(hs:Qf2 key xs=some ys):ys=[]:=by
 subst h; exact List.Perm.eq_nil (Qrc key hs).1
theorem Jch{xs ys:List Int}(h:xs=[])(hs:Qu7 xs=some ys):ys=[]:=by
 subst h
 obtain⟨_,h2⟩:=bvT hs
 exact(Option.some.inj h2).symm
theorem Qx1{xs ys:List Int}(h:xs=[])(hs:R9 xs=some ys):ys=[]:=by
 subst h
 obtain⟨_,h2⟩:=bvT hs
 exact(Option.some.inj h2).symm
theorem Jci{p:Int→Bool}{xs ys:List Int}(h:xs=[])(hs:Qu8 p xs=some ys):ys=[]:=by
 subst h
 obtain⟨_,h2⟩:=bvT hs
 exact(Option.some.inj h2).symm
theorem Q80(β:Nat→Nat)(ρ:Nat→Value)(ok:Ok)(w:World)(vs:List Value)(h:vs.length=([]:List Value).length+1)(yx:∀e∈([]:List En),∃cs,vs[e.t]?=some (e.av.val cs)∧cr β ρ ok w false e.av cs):∃v,vs=v::[]:=VD.1 h
theorem Q81{g:Nat}(β:Nat→Nat)(ρ:Nat→Value)(ok:Ok)(w:World)(vs:List Value)(h:vs.length=[Value.func (.func g) #[] #[]].length+1)(yx:∀e∈[(⟨1,[],.f g .nil⟩:En)],∃cs,vs[e.t]?=some (e.av.val cs)∧cr β ρ ok w false e.av cs):∃v,vs=v::[Value.func (.func g) #[] #[]]:=by
 obtain⟨cs,h1,ws,h2,h3⟩:=yx _ (.head _)
 have h3:ws=[]:=h3
 subst h3 h2
 obtain⟨a,b,rfl⟩:∃a b,vs=[a,b]:=by
  match vs,h with
  | [a,b],_=>exact⟨a,b,rfl⟩
 have h1:b=Value.func (.func g) #[] #[]:=Option.some.inj h1
 exact⟨a,by rw[h1]⟩
end Gx
