/- Iterators: functions that call yield. -/
import Derived.Test.YtpdhjildhjpjdaaGreatXP
import Derived.Test.YtpdhjildhjpjdaaGreatGRows
import Derived.Lib.ItoaNum
import Derived.Lib.LaidTab
import Derived.Lib.AppendIntMem
import Derived.Lib.Bytealg
import Derived.Lib.SlTrimSet
import Derived.Lib.Walk
import Derived.Lib.SlKeysI
import Derived.Maps.Views
import Derived.Sort.AssemblyPlain
import Derived.Lib.SlicesCompact
import Derived.Shelf.SlSortCmp.WholeK
import Derived.Shelf.SlSortCmp.NoneTotal
import Derived.Shelf.SortM.Plain
import Derived.Shelf.Slices.CompactI
import Derived.Shelf.SlicesE.DeleteFunc
namespace Gx
open Go Go.RowKit Gd
set_option linter.unusedVariables false
set_option linter.unusedSimpArgs false
inductive HnY where
 | done
 | h (m:Nat) (hn:Hn) (r:HnY)
 | mv (r:HnY)
 | yl (r:HnY)
 | so (t:Nat) (a b:HnY)
inductive AnY where
 | nil
 | reg (h:Hn)
 | yr (h:HnY)
 | two (a b:AnY)
 | un (a:AnY)
 | lp (ks ms:List Nat) (Γ:Shp) (exs:Exs) (a:AnY)
section
variable (Y:TX) (K:List Con) (n N:Nat) (u:Ty)
def gOk(ops:List Oper)(o:Oper)(S:XS):Bool:=match Qjz ops o with
 | some none=>true
 | some (some (t,want))=>match Xq S.flat.env t with
  | some ⟨_,[],.d .bool b⟩=>b==want
  | _=>false
 | none=>false
def Cn{R:Type}(ops:List Oper):HnY→List Oper→List Nat→XS→List u.De→(XS→List u.De→Option R)→Option R
 | .done,l,ys,S,acc,k=>match l with
  | []=>k S acc
  | _::_=>none
 | .h m hn r,l,ys,S,acc,k=>bif Qcv (l.take m)&&Qd6 (Wi (l.take m)) ys then Y7 Y K n ops hn (l.take m) S fun S'=>Cn ops r (l.drop m) ys S' acc k else none
 | .mv r,l,ys,S,acc,k=>match l with
  | o::l'=>match o.op,o.dst with
   | .move (.tmp t),some d=>bif Yi ys t&&okW n S d&&gOk ops o S then Cn ops r l' (d::ys) { S with env:=Yu S.env d } acc k else none
   | _,_=>none
  | []=>none
 | .yl r,l,ys,S,acc,k=>match l with
  | o::l'=>match o.op,o.dst with
   | .call ⟨.value (.tmp t),⟨[x]⟩,_⟩,some d=>match S.ev [] x with
    | some v=>match asD [] v u with
     | some y=>bif Yi ys t&&okW n S d&&gOk ops o S&&!Yi ys d&&(u.agg==v.isAgg)&&Jjo S.fixM then Cn ops r l' ys (XS.put { S with mem:=[] } d [] (.d .bool true)) (acc++[y]) k else none
     | none=>none
    | none=>none
   | _,_=>none
  | []=>none
 | .so t a b,l,ys,S,acc,k=>match Xq S.env t with
  | some ⟨_,[],.d .bool v⟩=>bif Qfh t S.fix then(if v=true then Cn ops a l ys (S.put t [] (.d .bool true)) acc k else Cn ops b l ys (S.put t [] (.d .bool false)) acc k)else none
  | _=>none
def Bo{R:Type}:AnY→Code→XS→List u.De→(Ex→XS→List u.De→Option R)→Option R
 | .nil,.skip,S,acc,k=>k .n S acc
 | .nil,.ret,S,acc,k=>k .r S acc
 | .nil,.exit id,S,acc,k=>k (.x id) S acc
 | .reg h,.region _ ⟨ops⟩ false,S,acc,k=>bif Qcv ops&&Qd6 (Wi ops) [0]then Y7 Y K n ops h ops S fun S'=>k .n S' acc else none
 | .yr h,.region _ ⟨ops⟩ false,S,acc,k=>bif Qd6 (Wi ops) [0]then Cn Y K n u ops h ops [0] S acc (k .n)else none
 | .two a b,.seq x y,S,acc,k=>Bo a x S acc fun e S' acc'=>match e with
  | .n=>Bo b y S' acc' k
  | .x i=>k (.x i) S' acc'
  | .r=>k .r S' acc'
 | .two a b,.cond c x y,S,acc,k=>match S.ev [] c with
  | some (.d .bool v)=>if v=true then Bo a x S acc k else Bo b y S acc k
  | _=>none
 | .un a,.block id c,S,acc,k=>Bo a c S acc fun e S' acc'=>match e with
  | .n=>k .n S' acc'
  | .x i=>bif Nat.beq i id then k .n S' acc' else k (.x i) S' acc'
  | .r=>k .r S' acc'
 | .lp ks ms Γ exs a,.loop c,S,acc,k=>match (S.ent ks ms).dec Γ with
  | some s0=>(Qh (fun(q:Γ.De×List u.De)=>Bo (R:=(Γ.De×List u.De)⊕(Q9e exs×List u.De)) a c ((S.ent ks ms).re (enc Γ q.1)) q.2 fun e S' acc'=>match e with
    | .n=>(match S'.dec Γ with
     | some s'=>some (.inl (s',acc'))
     | none=>none)
    | .x i=>(match inj exs (.x i) S' with
     | some x=>some (.inr (x,acc'))
     | none=>none)
    | .r=>(match inj exs .r S' with
     | some x=>some (.inr (x,acc'))
     | none=>none)) N (s0,acc)).bind fun z=>Q9f S ks ms (fun e S'=>k e S' z.2) exs z.1
  | none=>none
 | _,_,_,_,_=>none
end
theorem Qcw:∀(l m:List Oper),Wi (l++m)=Wi l++Wi m
 | [],m=>rfl
 | o::l,m=>by
  simp only[QF,Wi,Qcw l m]
  split<;>rfl
theorem Qtp{l m:List Nat}(h:Qd6 l m=true){t:Nat}(hl:t∈l)(hm:t∈m):False:=by
 have:=QP.1 h t hl
 rw[Ql3 hm]at this; cases this
theorem Q41{l:List Nat}{t:Nat}:Yi l t=true→t∈l:=Ql1
section
variable {P:Program} {Y:TX} {n N:Nat} {K:List Con} {u:Ty} {es:List u.De}
theorem Qtq{X:Cx}{β:Nat→Nat}{ρ:Nat→Value}{S:XS}{a:Act}{w:World}{ops:List Oper}{o:Oper}(h:Rel X β ρ S.flat a w)(hg:gOk ops o S=true):Region.wanted o (yielded ⟨ops⟩ a.tmps)=true:=by
 unfold gOk at hg
 split at hg
 ·grind [K0,Qjz]
 ·rename_i t want hgt
  split at hg
  ·rename_i t' b he
   rw[Ua hgt]
   obtain⟨cs,h1,h2⟩:=h.get he (Qf a)
   have h2':cs=_:=h2
   subst h2'
   rw[bEq hg]at h1
   exact h1
  ·cases hg
 ·cases hg
theorem Do{R:Type}{r:R}{ops:List Oper}:∀(hn:HnY) {l:List Oper} {ys:List Nat} {S:XS} {acc:List u.De} {k:XS→List u.De→Option R},Cn Y K n u ops hn l ys S acc k=some r→(∀S' acc',k S' acc'=some r→acc' <+: es)→acc <+: es
 | .done,l,ys,S,acc,k,h,hk=>by
  unfold Cn at h
  grind
 | .h m hn rr,l,ys,S,acc,k,h,hk=>by
  unfold Cn at h
  obtain⟨_,h⟩:=bvT h
  obtain⟨S1,h1,_⟩:=Qsx h
  exact Do rr h1 hk
 | .mv rr,l,ys,S,acc,k,h,hk=>by
  unfold Cn at h
  split at h
  ·split at h
   ·obtain⟨_,h⟩:=bvT h
    exact Do rr h hk
   ·cases h
  ·cases h
 | .yl rr,l,ys,S,acc,k,h,hk=>by
  unfold Cn at h
  split at h
  ·split at h
   ·split at h
    ·split at h
     ·obtain⟨_,h⟩:=bvT h
      exact(ZZ _ _).trans (Do rr h hk)
     ·cases h
    ·cases h
   ·cases h
  ·cases h
 | .so t a b,l,ys,S,acc,k,h,hk=>by
  unfold Cn at h
  split at h
  ·obtain⟨_,h⟩:=bvT h
   split at h
   ·exact Do a h hk
   ·exact Do b h hk
  ·cases h
theorem Qtr{R:Type}{S:XS}{ks ms:List Nat}{k:Ex→XS→Option R}{r:R}:∀{l:Exs} {x:Q9e l},Q9f S ks ms k l x=some r→∃e S',k e S'=some r
 | [],x,_=>nomatch x
 | [q],x,h=>⟨_,_,h⟩
 | q::q2::l,x,h=>by
  simp only[Q9f]at h
  split at h
  ·exact⟨_,_,h⟩
  ·exact Qtr h
theorem Is:∀{R:Type} {r:R} (an:AnY) {c:Code} {S:XS} {acc:List u.De} {k:Ex→XS→List u.De→Option R},Bo Y K n N u an c S acc k=some r→(∀e S' acc',k e S' acc'=some r→acc' <+: es)→acc <+: es
 | R,r,.nil,c,S,acc,k,h,hk=>by
  cases c<;>simp only[Bo]at h<;>first | (cases h; done) | exact hk _ _ _ h
 | R,r,.reg hn,c,S,acc,k,h,hk=>by
  cases c with
  | region id ops draw =>
   obtain⟨ops⟩:=ops
   cases draw with
   | true=>simp[Bo]at h
   | false =>
    simp only[Bo]at h
    obtain⟨_,h⟩:=bvT h
    grind [Qsx]
  | _=>simp[Bo]at h
 | R,r,.yr hn,c,S,acc,k,h,hk=>by
  cases c with
  | region id ops draw =>
   obtain⟨ops⟩:=ops
   cases draw with
   | true=>simp[Bo]at h
   | false =>
    simp only[Bo]at h
    obtain⟨_,h⟩:=bvT h
    grind [Do]
  | _=>simp[Bo]at h
 | R,r,.two a b,c,S,acc,k,h,hk=>by
  cases c<;>simp only[Bo]at h<;>first | (cases h; done) | skip
  ·refine Is a h fun e S' acc' h'=>?_
   cases e with
   | n=>exact Is b h' hk
   | x i=>exact hk _ _ _ h'
   | r=>exact hk _ _ _ h'
  ·split at h
   ·split at h
    ·exact Is a h hk
    ·exact Is b h hk
   ·cases h
 | R,r,.un a,c,S,acc,k,h,hk=>by
  cases c<;>simp only[Bo]at h<;>first | (cases h; done) | skip
  rename_i id c1
  refine Is a h fun e S' acc' h'=>?_
  grind
 | R,r,.lp ks ms Γ exs a,c,S,acc,k,h,hk=>by
  cases c<;>simp only[Bo]at h<;>first | (cases h; done) | skip
  rename_i c1
  split at h
  ·rename_i s0 hs0
   obtain⟨z,hz,ho⟩:=Ys h
   obtain⟨e0,S0,hk0⟩:=Qtr ho
   have hzp:z.2 <+: es:=hk _ _ _ hk0
   obtain⟨f,hz,hf⟩:∃f,Qh f N (s0,acc)=some z∧f=_:=⟨_,hz,rfl⟩
   have main:∀(m:Nat) (q:Γ.De×List u.De),Qh f m q=some z→q.2 <+: es:=by
    intro m
    induction m with
    | zero=>grind [Qh]
    | succ m ih =>
     intro q hq
     simp only[Qh]at hq
     obtain⟨x,hx,hq⟩:=Ys hq
     rw[hf]at hx
     refine Is a hx fun e S' acc' h'=>?_
     grind
   grind
  ·cases h
structure YCx(P:Program)(Y:TX)(K:List Con)(n:Nat)(ok:Ok)(w0:World)(bs:List Nat)(X:Cx)(O:Nat→Prop):Prop where
 hX:X.n=n
 hr:X.res=[]
 hp:X.pin=none
 hd:X.dfs=[]
 hl:X.lent=[]
 hK:KsX P Y X K
 hO:∀b,O b→b<X.w.heap.size∧∀o,¬ X.ok b o
 hC:∀b o,X.ok b o→ok b o∨w0.heap.size≤b∨b∈bs
 hW:w0.heap.size≤X.w.heap.size
theorem Qxy{X:Cx}{β:Nat→Nat}{ρ:Nat→Value}{S:St}{a:Act}{w:World}(h:Rel X β ρ S a w)(hl:X.lent=[]):Below X.w.heap.size X.w w:=by
 have:=h.bel
 rw[hl]at this
 exact this.nil
def reY(X:Cx)(β:Nat→Nat)(ρ:Nat→Value)(M:List (Nat×Ob))(A B:World):Cx:=⟨X.n,okR X β ρ M A,B,[],⟨#[],[]⟩,none,[],by simp,X.dfs⟩
theorem Jus{ok:Ok}{w0:World}{bs:List Nat}{X:Cx}{O O':Nat→Prop}(hC:YCx P Y K n ok w0 bs X O){β:Nat→Nat}{ρ:Nat→Value}{S:St}{a:Act}{A B:World}(h:Rel X β ρ S a A)
    (hO':∀b,O' b→O b∨A.heap.size≤b) (hOB:∀b,O' b→b<B.heap.size) (hsz:A.heap.size≤B.heap.size) (hsame:∀b,b<A.heap.size→¬ O b→B.heap[b]?=A.heap[b]?) :
    YCx P Y K n ok w0 bs (reY X β ρ S.mem A B) O'∧Rel (reY X β ρ S.mem A B) β ρ ⟨S.env,[]⟩ a B:=by
  have hno:∀b o,okR X β ρ S.mem A b o→¬ O b:=fun b o hbo hOb=>by
    obtain⟨q1,q2⟩:=hC.hO b hOb
    rcases hbo.1 with q | q
    · exact q2 o q
    · omega
  have hev:Evo (okR X β ρ S.mem A) A B:=Evo.of_blocks hsz fun b o hbo=>hsame b hbo.2.1 (hno b o hbo)
  have hk:∀b o,okR X β ρ S.mem A b o→Jn (okR X β ρ S.mem A) B.heap.size (fun _=>0) [] (Qk β ρ []) B b o:=fun b o hbo=>⟨.inl hbo,QC hbo.2.1 hsz,by simp,by simp[Qk]⟩
  refine⟨⟨hC.hX,rfl,rfl,hC.hd,rfl,⟨hC.hK.1,?_⟩,fun b hb=>⟨hOB b hb,fun o hbo=>?_⟩,fun b o hbo=>?_,QY hC.hW (QY h.bel.size hsz)⟩,?_⟩
  · exact((Qa2 h hC.hK.2).keep hsz fun b o hbo=>hsame b hbo.2.1 (hno b o hbo)).weak fun b o hbo=>⟨hbo,by simp[reY],QC hbo.2.1 hsz⟩
  · rcases hO' b hb with q | q
    · exact hno b o hbo q
    · have:=hbo.2.1; omega
  · have hbo':okR X β ρ S.mem A b o:=hbo
    rcases hbo'.1 with q | q
    · exact hC.hC b o q
    · exact .inr (.inl (QY hC.hW q))
  · exact { sz:=h.sz,df:=h.df,fr:=by simp[reY],pn:=by simp[reY],tm:=by simp,bel:=Zt.refl _ _ _,obj:=by simp,dHH:=by simp,dHO:=by simp,
            dat:=Yf.2 fun x hx=>by
              obtain⟨e,he,rfl⟩:=QK.1 hx
              exact(enD β ρ a e).weak ((enD β ρ a e).evo (Yf.1 h.dat _ (QK.2 ⟨e,he,rfl⟩)) hev) hk,
            own:=by simp[Qk],dOO:=by simp[Qk] }
section
variable (hT:Qy P Y.T) {ok:Ok} {w0:World} {bs:List Nat} {l m:Nat} {a0:Act} {J:Nat→(Nat→Prop)→World→Prop}
 (hst:∀k O A B,J k O A→Below A.heap.size A B→J k O B) (hlt:∀k O A,J k O A→∀b,O b→b<A.heap.size∧(∀o,¬ ok b o)∧b∉bs)
 (hy:∀k O A e v,J k O A→es[k]?=some e→isV (rt u) (okC ok w0 A O bs) A e v→∀m,YieldAt Fence.wide m P l #[v] A fun r B=>r=.returned (.bool true) ∧
     ∃O',J (k+1) O' B∧(∀b,O' b→O b∨A.heap.size≤b)∧A.heap.size≤B.heap.size∧∀b,b<A.heap.size→¬ O b→B.heap[b]?=A.heap[b]?)
include hT hst hlt hy
def YOk(P:Program)(Y:TX)(K:List Con)(n:Nat)(ok:Ok)(w0:World)(bs:List Nat)(J:Nat→(Nat→Prop)→World→Prop)(a0:Act)(S:XS)(β:Nat→Nat)(ρ:Nat→Value){R:Type}{u:Ty}(k:Ex→XS→List u.De→Option R)(r:R)(Q:Exit→Act→World→Prop):Prop :=
 ∀(X:Cx) (O:Nat→Prop) (e:Ex) (β':Nat→Nat) (ρ':Nat→Value) (S':XS) (a':Act) (w':World) (acc':List u.De),k e S' acc'=some r→YCx P Y K n ok w0 bs X O→J acc'.length O X.w→Vb S S' β β' ρ ρ'→Rel X β' ρ' S'.flat a' w'→a'.tmps[0]?=a0.tmps[0]?→Q e.exit a' w'
theorem Qba{R:Type}{r:R}{ops:List Oper}{yv:Value}(hyv:yv=.func (.yield l) #[] #[]):∀(hn:HnY) {os:List Oper} {ys:List Nat} {S:XS} {acc:List u.De} {k:XS→List u.De→Option R} {X:Cx} {O:Nat→Prop} {β:Nat→Nat} {ρ:Nat→Value} {a:Act} {w:World} {Q:Exit→Act→World→Prop},
  ¬ LetsOut Q→(∀d∈Wi os,d∉[0])→Cn Y K n u ops hn os ys S acc k=some r→(∀S' acc',k S' acc'=some r→acc' <+: es)→YCx P Y K n ok w0 bs X O→J acc.length O X.w→Rel X β ρ S.flat a w→(∀t∈ys,a.tmps[t]?=some yv)→a.tmps[0]?=a0.tmps[0]? →
  YOk P Y K n ok w0 bs J a0 S β ρ (fun _=>k) r (fun _=>Q .normal)→wpListIn Fence.wide m P ⟨ops⟩ Q os a w
 | .done,os,ys,S,acc,k,X,O,β,ρ,a,w,Q,hQ,hz,h,hk,hC,hJ,hR,hys,h0,H=>by
  unfold Cn at h
  split at h
  ·exact H X O .n β ρ S a w acc h hC hJ (Vb.refl _ _ _) hR h0
  ·cases h
 | .h m1 hn rr,os,ys,S,acc,k,X,O,β,ρ,a,w,Q,hQ,hz,h,hk,hC,hJ,hR,hys,h0,H=>by
  unfold Cn at h
  obtain⟨hb,h⟩:=bvT h
  simp only[QQ]at hb
  have hsplit:os=os.take m1++os.drop m1:=(List.take_append_drop m1 os).symm
  have hd1:∀d∈Wi (os.take m1),d∈Wi os:=fun d hd=>by
   rw[hsplit,Qcw]; grind
  have hd2:∀d∈Wi (os.drop m1),d∈Wi os:=fun d hd=>by
   rw[hsplit,Qcw]; grind
  have hrun:=Vu hT hC.hK hC.hX hC.hr (Q:=QL (Wi (os.take m1)) a (fun a' w'=>wpListIn Fence.wide m P ⟨ops⟩ Q (os.drop m1) a' w') Q) hn (l:=os.take m1) (rest:=[]) hR h fun β' ρ' S' a' w' h1 h2 h3=>fun hsame=>by
   refine Qba hyv rr hQ (fun d hd=>hz d (hd2 d hd)) h1 hk hC hJ h3 (fun t ht=>?_) ?_ fun X2 O2 e β2 ρ2 S2 a2 w2 acc2 q1 q2 q3 q4 q5 q6=>H X2 O2 e β2 ρ2 S2 a2 w2 acc2 q1 q2 q3 (h2.trans q4) q5 q6
   ·rw[hsame t fun hm=>Qtp hb.2 hm ht]; exact hys t ht
   ·rw[hsame 0 fun hm=>hz 0 (hd1 0 hm) (.head _)]; exact h0
  rw[QG]at hrun
  have:=Qn5 (ro:=none) (m:=m) (tl:=os.drop m1) hQ (fun a w hz=>hz) (os.take m1) hb.1 (fun d hd=>hd) a w (fun t _=>rfl) hrun
  rw[List.take_append_drop]at this
  exact this
 | .mv rr,os,ys,S,acc,k,X,O,β,ρ,a,w,Q,hQ,hz,h,hk,hC,hJ,hR,hys,h0,H=>by
  unfold Cn at h
  split at h
  ·rename_i o os'
   split at h
   ·rename_i t d hop hdst
    obtain⟨hb,h⟩:=bvT h
    simp only[QQ]at hb
    have hw:=Qtq hR hb.2
    obtain⟨hwd,hwo⟩:=Vc hb.1.2 hC.hX hC.hr
    have hyt:=hys t (Q41 hb.1.1)
    unfold wpListIn
    rw[if_pos hw]
    refine⟨fun _ _=>trivial,?_⟩
    have hsem:Oper.semAt Fence.wide.round a.eval o=execOp a.eval o:=Oper.semAt_none _ _
    have hrun:(execOp a.eval o).run P w=.ok (.value yv) w:=by
     unfold execOp
     rw[hop]
     have:a.eval (.tmp t)=yv:=by
      show a.tmps.getD t undef=yv
      simp_all
     simp[this]
    rw[hsem,hrun]
    show wpListIn Fence.wide m P ⟨ops⟩ Q os' (a.put o.dst yv) w
    rw[hdst]
    have hR2:Rel X β ρ (XS.flat { S with env:=Yu S.env d }) (a.put (some d) yv) w:=by
     have:=hR.del hwd yv
     grind [St.del,XS.flat,Yu,Ar]
    have hdz:d∉[0]:=hz d (by simp[Wi,hdst])
    have hlt2:d<a.tmps.size:=by rw[hR.sz]; exact Qr0 hwd
    refine Qba hyv rr hQ (fun d' hd'=>hz d' (by grind [Wi])) h hk hC hJ hR2 (fun t' ht'=>?_) ((Vj (t:=0) (d:=d) (fun e=>hdz (by rw[←e]; exact .head _)) _).trans h0) fun X2 O2 e β2 ρ2 S2 a2 w2 acc2 q1 q2 q3 q4 q5 q6=>H X2 O2 e β2 ρ2 S2 a2 w2 acc2 q1 q2 q3 ⟨q4.fix,q4.fixM,q4.prot,q4.ag⟩ q5 q6
    by_cases e:t'=d
    ·subst e; simp[Act.put,hlt2]
    ·rcases QX.1 ht' with e2 | ht'
     ·exact absurd e2 e
     ·rw[Vj e]; exact hys t' ht'
   ·cases h
  ·cases h
 | .yl rr,os,ys,S,acc,k,X,O,β,ρ,a,w,Q,hQ,hz,h,hk,hC,hJ,hR,hys,h0,H=>by
  unfold Cn at h
  split at h
  ·rename_i o os'
   split at h
   ·rename_i t x ts d hop hdst
    split at h
    ·rename_i v hv
     split at h
     ·rename_i y hyd
      obtain⟨hb,h⟩:=bvT h
      simp only[QQ,XQ]at hb
      obtain⟨⟨⟨⟨⟨b1,b2⟩,b3⟩,b4⟩,b5⟩,b6⟩:=hb
      have hw:=Qtq hR b3
      obtain⟨hwd,hwo⟩:=Vc b2 hC.hX hC.hr
      have hyt:=hys t (Q41 b1)
      have hyt':a.eval (.tmp t)=yv:=by
       show a.tmps.getD t undef=yv
       simp[QI,hyt]
      have hfm:S.fixM=[]:=by
       cases hE:S.fixM with
       | nil=>rfl
       | cons q l=>rw[hE]at b6; cases b6
      obtain⟨cs,hv1,hv2⟩:=hR.ev (Qf a) hv
      have hval:isV (rt u) (okR X β ρ S.flat.mem w) w y (a.eval x):=by
       refine⟨cs,Xa (M:=[]) (β:=β) (ρ:=ρ) (by simp[Qg]) hyd hv2,?_⟩
       rw[hv1]; simp only[AV.val,RT.val,Dg,bEq b5]; cases v.isAgg<;>rfl
      have hpre:acc++[y] <+: es:=Do rr h hk
      have hek:es[acc.length]?=some y:=by
       obtain⟨tl,rfl⟩:=hpre
       simp
      have hJw:=hst _ _ _ _ hJ (Qxy hR hC.hl)
      have hvalC:isV (rt u) (okC ok w0 w O bs) w y (a.eval x):=hval.weak fun b o' hbo=>by
       refine⟨?_,hbo.2.1,fun hOb=>?_⟩
       ·rcases hbo.1 with q | q
        ·exact hC.hC b o' q
        ·exact .inr (.inl (QY hC.hW q))
       ·obtain⟨q1,q2⟩:=hC.hO b hOb
        rcases hbo.1 with q | q
        ·exact q2 o' q
        ·omega
      obtain⟨fn,tmps,assign,body,hyr,hround⟩:=hy _ _ _ _ _ hJw hek hvalC (m - 1)
      unfold wpListIn
      rw[if_pos hw]
      refine⟨fun _ _=>trivial,?_⟩
      have hsem:Oper.semAt Fence.wide.round a.eval o=execOp a.eval o:=Oper.semAt_none _ _
      have hrun:(execOp a.eval o).run P w=.ok (.round l fn tmps assign body) w:=by
       grind [execOp,resolve,Deferred.ofValue,invoke]
      rw[hsem,hrun]
      refine⟨fun hd=>(by have h0:Fence.wide.depth.isSome=false:=rfl; rw[h0]at hd; cases hd),hround.mono ?_⟩
      rintro r2 B ⟨rfl,O',hJ',hO',hsz,hsame⟩
      obtain⟨hC2,hR2⟩:=Jus hC hR hO' (fun b hb=>(hlt _ _ _ hJ' b hb).1) hsz hsame
      show wpListIn Fence.wide m P ⟨ops⟩ Q os' (a.put o.dst (.bool true)) B
      rw[hdst]
      obtain⟨hwd2,_⟩:=Vc b2 hC2.hX hC2.hr
      have hR3:Rel (reY X β ρ S.flat.mem w B) β ρ (XS.flat (XS.put { S with mem:=[] } d [] (.d .bool true))) (a.put (some d) (.bool true)) B:=by
       have hflat:XS.flat { S with mem:=[] }=⟨S.flat.env,[]⟩:=by simp[XS.flat,hfm]
       rw[Ky (S:={ S with mem:=[] }) hwo,hflat]
       exact hR2.put0 hwd2 (x:=.d .bool true) (c:=[.bool true]) rfl
      have hdz:d∉[0]:=hz d (by grind [Wi])
      refine Qba hyv rr hQ (fun d' hd'=>hz d' (by grind [Wi])) h hk hC2 (by rw[List.length_append]; exact hJ') hR3 (fun t' ht'=>?_) ((Vj (t:=0) (d:=d) (fun e=>hdz (by rw[←e]; exact .head _)) _).trans h0) fun X2 O2 e β2 ρ2 S2 a2 w2 acc2 q1 q2 q3 q4 q5 q6=>H X2 O2 e β2 ρ2 S2 a2 w2 acc2 q1 q2 q3 ⟨q4.fix,q4.fixM,q4.prot,q4.ag⟩ q5 q6
      by_cases e:t'=d
      ·subst e
       rw[Ql3 ht']at b4; cases b4
      ·rw[Vj e]; exact hys t' ht'
     ·cases h
    ·cases h
   ·cases h
  ·cases h
 | .so t x y,os,ys,S,acc,k,X,O,β,ρ,a,w,Q,hQ,hz,h,hk,hC,hJ,hR,hys,h0,H=>by
  unfold Cn at h
  split at h
  ·rename_i t' v he
   obtain⟨hoff,h1⟩:=bvT h
   have ht':=(Zw he).2
   simp only at ht'
   subst ht'
   split at h1
   ·rename_i hv
    subst hv
    exact Qba hyv x hQ hz h1 hk hC hJ (Qth hR he) hys h0 fun X2 O2 e β2 ρ2 S2 a2 w2 acc2 q1 q2 q3 q4 q5 q6=>H X2 O2 e β2 ρ2 S2 a2 w2 acc2 q1 q2 q3 ⟨q4.fix,q4.fixM,q4.prot,q4.ag⟩ q5 q6
   ·rename_i hv
    have hv:v=false:=by simpa using hv
    subst hv
    exact Qba hyv y hQ hz h1 hk hC hJ (Qth hR he) hys h0 fun X2 O2 e β2 ρ2 S2 a2 w2 acc2 q1 q2 q3 q4 q5 q6=>H X2 O2 e β2 ρ2 S2 a2 w2 acc2 q1 q2 q3 ⟨q4.fix,q4.fixM,q4.prot,q4.ag⟩ q5 q6
  ·cases h
theorem Qcx(ha0:a0.tmps[0]?=some (.func (.yield l) #[] #[])):∀{R:Type} {r:R} (an:AnY) {c:Code} {S:XS} {acc:List u.De} {k:Ex→XS→List u.De→Option R} {X:Cx} {O:Nat→Prop} {β:Nat→Nat} {ρ:Nat→Value} {a:Act} {w:World} {Q:Exit→Act→World→Prop},
  ¬ LetsOut Q→Bo Y K n N u an c S acc k=some r→(∀e S' acc',k e S' acc'=some r→acc' <+: es)→YCx P Y K n ok w0 bs X O→J acc.length O X.w→Rel X β ρ S.flat a w→a.tmps[0]?=a0.tmps[0]?→YOk P Y K n ok w0 bs J a0 S β ρ k r Q→c.wp P Q a w
 | R,r,.nil,c,S,acc,k,X,O,β,ρ,a,w,Q,hQ,h,hk,hC,hJ,hR,h0,H=>by
  cases c<;>simp only[Bo]at h<;>first | (cases h; done) | skip
  ·exact wp_skip (H X O .n β ρ S a w acc h hC hJ (Vb.refl _ _ _) hR h0)
  ·rename_i id; exact wp_exit (H X O (.x id) β ρ S a w acc h hC hJ (Vb.refl _ _ _) hR h0)
  ·exact wp_ret (H X O .r β ρ S a w acc h hC hJ (Vb.refl _ _ _) hR h0)
 | R,r,.reg hn,c,S,acc,k,X,O,β,ρ,a,w,Q,hQ,h,hk,hC,hJ,hR,h0,H=>by
  cases c with
  | region id ops draw =>
   obtain⟨ops⟩:=ops
   cases draw with
   | true=>simp[Bo]at h
   | false =>
    simp only[Bo]at h
    obtain⟨hb,h⟩:=bvT h
    simp only[QQ]at hb
    refine(wpIn_wide (n:=1)).1 (wpIn_region_list ?_)
    have:=Vu hT hC.hK hC.hX hC.hr (Q:=QS (Wi ops) a Q) hn (l:=ops) (rest:=[]) hR h fun β' ρ' S' a' w' h1 h2 h3=>fun hsame=>H X O .n β' ρ' S' a' w' acc h1 hC hJ h2 h3 ((hsame 0 fun hm=>Qtp hb.2 hm (.head _)).trans h0)
    rw[QG]at this
    exact Qxv (ro:=none) hQ ops hb.1 (fun d hd=>hd) a w (fun t _=>rfl) this
  | _=>simp[Bo]at h
 | R,r,.yr hn,c,S,acc,k,X,O,β,ρ,a,w,Q,hQ,h,hk,hC,hJ,hR,h0,H=>by
  cases c with
  | region id ops draw =>
   obtain⟨ops⟩:=ops
   cases draw with
   | true=>simp[Bo]at h
   | false =>
    simp only[Bo]at h
    obtain⟨hb,h⟩:=bvT h
    refine(wpIn_wide (n:=1)).1 (wpIn_region_list ?_)
    exact Qba (m:=1) hT hst hlt hy rfl hn hQ (fun d hd hm=>Qtp hb hd hm) h (fun S' acc' h'=>hk _ _ _ h') hC hJ hR (fun t ht=>by
     grind) h0 fun X2 O2 e β2 ρ2 S2 a2 w2 acc2 q1 q2 q3 q4 q5 q6=>H X2 O2 .n β2 ρ2 S2 a2 w2 acc2 q1 q2 q3 q4 q5 q6
  | _=>simp[Bo]at h
 | R,r,.two x y,c,S,acc,k,X,O,β,ρ,a,w,Q,hQ,h,hk,hC,hJ,hR,h0,H=>by
  cases c<;>simp only[Bo]at h<;>first | (cases h; done) | skip
  ·rename_i c1 c2
   refine wp_seq (Qcx ha0 x (Q:=Exit.then (c2.wp P Q) Q) hQ h (fun e S' acc' h'=>?_) hC hJ hR h0 fun X2 O2 e β2 ρ2 S2 a2 w2 acc2 q1 q2 q3 q4 q5 q6=>?_)
   ·grind [Is]
   ·cases e with
    | n=>exact Qcx ha0 y hQ q1 hk q2 q3 q5 q6 fun X3 O3 e β3 ρ3 S3 a3 w3 acc3 p1 p2 p3 p4 p5 p6=>H X3 O3 e β3 ρ3 S3 a3 w3 acc3 p1 p2 p3 (q4.trans p4) p5 p6
    | x i=>exact H X2 O2 (.x i) β2 ρ2 S2 a2 w2 acc2 q1 q2 q3 q4 q5 q6
    | r=>exact H X2 O2 .r β2 ρ2 S2 a2 w2 acc2 q1 q2 q3 q4 q5 q6
  ·rename_i co c1 c2
   split at h
   ·rename_i v hv
    obtain⟨cs,h1,h2⟩:=hR.ev (Qf a) hv
    have h2':cs=_:=h2
    subst h2'
    have h1':a.eval co=.bool v:=h1
    refine wp_cond_split h1' (fun hv=>?_) (fun hv=>?_)
    ·rw[if_pos hv]at h
     exact Qcx ha0 x hQ h hk hC hJ hR h0 H
    ·rw[if_neg (by rw[hv]; simp)]at h
     exact Qcx ha0 y hQ h hk hC hJ hR h0 H
   ·cases h
 | R,r,.un x,c,S,acc,k,X,O,β,ρ,a,w,Q,hQ,h,hk,hC,hJ,hR,h0,H=>by
  cases c<;>simp only[Bo]at h<;>first | (cases h; done) | skip
  rename_i id c1
  refine wp_block (Qcx ha0 x (Q:=Exit.inBlock id Q) hQ h (fun e S' acc' h'=>?_) hC hJ hR h0 fun X2 O2 e β2 ρ2 S2 a2 w2 acc2 q1 q2 q3 q4 q5 q6=>?_)
  ·grind
  ·cases e with
   | n=>exact H X2 O2 .n β2 ρ2 S2 a2 w2 acc2 q1 q2 q3 q4 q5 q6
   | x i =>
    simp only at q1
    show if i=id then Q .normal a2 w2 else Q (.exit i) a2 w2
    cases hb:Nat.beq i id with
    | true =>
     rw[hb]at q1
     rw[if_pos (Nat.eq_of_beq_eq_true hb)]
     exact H X2 O2 .n β2 ρ2 S2 a2 w2 acc2 q1 q2 q3 q4 q5 q6
    | false =>
     rw[hb]at q1
     rw[if_neg (fun e=>by rw[e,Nat.beq_refl]at hb; cases hb)]
     exact H X2 O2 (.x i) β2 ρ2 S2 a2 w2 acc2 q1 q2 q3 q4 q5 q6
   | r=>exact H X2 O2 .r β2 ρ2 S2 a2 w2 acc2 q1 q2 q3 q4 q5 q6
 | R,r,.lp ks ms Γ exs x,c,S,acc,k,X,O,β,ρ,a,w,Q,hQ,h,hk,hC,hJ,hR,h0,H=>by
  cases c<;>simp only[Bo]at h<;>first | (cases h; done) | skip
  rename_i c1
  split at h
  ·rename_i s0 hs0
   obtain⟨z,hz,ho⟩:=Ys h
   obtain⟨e0,S0,hk0⟩:=Qtr ho
   have hzp:z.2 <+: es:=hk _ _ _ hk0
   obtain⟨f,hz,hf⟩:∃f,Qh f N (s0,acc)=some z∧f=_:=⟨_,hz,rfl⟩
   have main:∀(m:Nat) (q:Γ.De×List u.De),Qh f m q=some z→q.2 <+: es:=by
    intro m
    induction m with
    | zero=>grind [Qh]
    | succ m ih =>
     intro q hq
     simp only[Qh]at hq
     obtain⟨x,hx,hq⟩:=Ys hq
     rw[hf]at hx
     grind [Is,fin]
   obtain⟨β1,ρ1,h1,h2⟩:=Tk (S0:=S.ent ks ms) (hR.ent ks ms) ⟨rfl,rfl,rfl⟩ hs0
   refine Qla (fun m a w=>∃(s:Γ.De) (ac:List u.De) (X1:Cx) (O1:Nat→Prop) (β':Nat→Nat) (ρ':Nat→Value),YCx P Y K n ok w0 bs X1 O1∧J ac.length O1 X1.w∧a.tmps[0]?=a0.tmps[0]?∧agP S.prot β β' ρ ρ'∧Rel X1 β' ρ' ((S.ent ks ms).re (enc Γ s)).flat a w∧Qh f m (s,ac)=some z) N ⟨s0,acc,X,O,β1,ρ1,hC,hJ,h0,h1,h2,hz⟩ ?_
   rintro m1 a1 w1 ⟨s,ac,X1,O1,β',ρ',hC1,hJ1,h01,h3,h4,h5⟩
   cases m1 with
   | zero=>simp[Qh]at h5
   | succ m1 =>
    simp only[Qh]at h5
    obtain⟨q,hq,h5⟩:=Ys h5
    rw[hf]at hq
    have fin:∀acc',(∃s',some (Sum.inl (s',acc'))=some q)∨(∃y,some (Sum.inr (y,acc'))=some q)→acc' <+: es:=by
     grind
    refine Qcx ha0 x (Q:=Exit.then (fun a' w'=>∃k,k<m1+1∧∃(s:Γ.De) (ac:List u.De) (X1:Cx) (O1:Nat→Prop) (β':Nat→Nat) (ρ':Nat→Value),YCx P Y K n ok w0 bs X1 O1∧J ac.length O1 X1.w∧a'.tmps[0]?=a0.tmps[0]?∧agP S.prot β β' ρ ρ'∧Rel X1 β' ρ' ((S.ent ks ms).re (enc Γ s)).flat a' w'∧Qh f k (s,ac)=some z) Q) hQ hq (fun e S' acc' h'=>?_) hC1 hJ1 h4 h01 fun X2 O2 e β2 ρ2 S' a' w' acc2 h6 q2 q3 h7 h8 q6=>?_
    ·grind
    ·cases e with
     | n =>
      simp only at h6
      split at h6
      ·rename_i s' hd
       injection h6 with h6; subst h6
       obtain⟨β3,ρ3,h9,h10⟩:=Tk (S0:=S.ent ks ms) h8 ⟨h7.fix,h7.fixM,h7.prot⟩ hd
       exact⟨m1,Nat.lt_succ_self m1,s',acc2,X2,O2,β3,ρ3,q2,q3,q6,(h3.trans h7.ag).trans h9,h10,h5⟩
      ·cases h6
     | x i =>
      simp only at h6
      split at h6
      ·rename_i s' hd
       injection h6 with h6; subst h6
       injection h5 with h5; subst h5
       obtain⟨β3,ρ3,S1,h9,h10,h11⟩:=Qn3 ks ms hd ho ⟨h7.fix,h7.fixM,h7.prot⟩ h8
       exact H X2 O2 (.x i) β3 ρ3 _ a' w' acc2 h9 q2 q3 ⟨rfl,rfl,rfl,(h3.trans h7.ag).trans h10⟩ h11 q6
      ·cases h6
     | r =>
      simp only at h6
      split at h6
      ·rename_i s' hd
       injection h6 with h6; subst h6
       injection h5 with h5; subst h5
       obtain⟨β3,ρ3,S1,h9,h10,h11⟩:=Qn3 ks ms hd ho ⟨h7.fix,h7.fixM,h7.prot⟩ h8
       exact H X2 O2 .r β3 ρ3 _ a' w' acc2 h9 q2 q3 ⟨rfl,rfl,rfl,(h3.trans h7.ag).trans h10⟩ h11 q6
      ·cases h6
  ·cases h
end
end
def Jgm:List DV→Nat→List En
 | [],_=>[]
 | v::l,i=>⟨i,[],.a v.1 v.2⟩::Jgm l (i+1)
def Jrl(Y:TX)(K:List Con)(N:Nat)(u:Ty)(fn:Func)(an:AnY)(cs:List Ty)(x:Tup cs):Option (List u.De):=match fn.body with
 | some c=>bif Nat.ble (cs.length+1) fn.ntmps&&Nat.blt (cs.length+1) 100000 then Bo Y K fn.ntmps N u an c ⟨Jgm (toL cs x) 1,Qfj Y.gl,[],[],[]⟩ [] fun e S acc=>match e with
  | .x _=>none
  | .n=>some acc
  | .r=>some acc else none
 | none=>none
theorem Qrh:∀(ts:List Ty) (x:Tup ts),(toL ts x).length=ts.length
 | [],_=>rfl
 | [t],x=>rfl
 | t::u::ts,x=>by simp[toL,Qrh (u::ts)]
theorem Q42{ok:Ok}{w:World}:∀{l:List DV} {bs:List Nat},Jgj ok w l bs→bs.length=l.length
 | [],[],_=>rfl
 | v::l,b::bs,h=>by simp[Q42 h.2]
 | [],_::_,h=>h.elim
 | _::_,[],h=>h.elim
theorem Qts{ok:Ok}{w:World}:∀{l:List DV} {bs:List Nat},Jgj ok w l bs→∀(i:Nat) v,l[i]?=some v→∃b,bs[i]?=some b∧∃tid cs,w.heap[b]?=some (.cells cs.toArray tid (0,0))∧(rt v.1).rep ok w v.2 cs
 | [],[],_,i,v,hv=>by simp at hv
 | x::l,b::bs,h,0,v,hv=>by
  simp at hv; subst hv
  exact⟨b,rfl,h.1⟩
 | x::l,b::bs,h,i+1,v,hv=>Qts h.2 i v (by simpa using hv)
 | [],_::_,h,_,_,_=>h.elim
 | _::_,[],h,_,_,_=>h.elim
theorem Q43:∀{l:List DV} {i:Nat} {e:En},e∈Jgm l i→∃j v,l[j]?=some v∧e=⟨i+j,[],.a v.1 v.2⟩
 | v::l,i,e,h=>by
  rcases QX.1 h with rfl | h
  ·exact⟨0,v,rfl,rfl⟩
  ·obtain⟨j,v',h1,h2⟩:=Q43 h
   exact⟨j+1,v',h1,by rw[h2]; congr 1; omega⟩
theorem Jpn{P:Program}{Y:TX}{K:List Con}{N:Nat}(hT:Qy P Y.T)(hmix:P.follows .mixedOrders=true)(hK:Q4r P Y.gl K){it:It}{fn:Func}(hf:P.funcs[it.f]?=some fn)(hres:fn.results=#[]){an:AnY}(hrun:∀x,it.fn x=Jrl Y K N it.u fn an it.cs x):Jgk P Y.gl it:=by
 intro ok w bs x es hok hG hes hbox hnd hbno l J W O0 hbel hst hlt hy hJ0 m
 rw[hrun]at hes
 unfold Jrl at hes
 split at hes
 case h_2=>cases hes
 rename_i c hb
 obtain⟨hc,hes⟩:=bvT hes
 simp only[QQ]at hc
 have hn:=QV hc.1
 have hsm:=QV hc.2
 have hbl:=Q42 hbox
 rw[Qrh]at hbl
 refine callsIn_wide.2 (calls_of_wp hf hb ?_)
 obtain⟨a,ha⟩:∃a:Act,a={ tmps:=(#[Value.func (.yield l) #[] #[]]++(bs.map Q40).toArray)++Array.replicate (fn.ntmps - (#[Value.func (.yield l) #[] #[]]++(bs.map Q40).toArray).size) undef,defers:=[] }:=⟨_,rfl⟩
 rw[←ha]
 have hsize:(#[Value.func (.yield l) #[] #[]]++(bs.map Q40).toArray).size=it.cs.length+1:=by
  grind
 have ha0:a.tmps[0]?=some (.func (.yield l) #[] #[]):=by
  rw[ha]
  grind
 have hag:∀(j:Nat) b,bs[j]?=some b→a.tmps[1+j]?=some (Q40 b):=fun j b hj=>by
  rw[ha]
  have hjl:=(List.getElem?_eq_some_iff.1 hj).1
  rw[XY (by rw[hsize]; omega),Array.getElem?_append_right (by simp)]
  simp[hj]
 obtain⟨X,hX⟩:∃X:Cx,X=⟨fn.ntmps,fun b o=>ok b o∨b∈bs,W,[],⟨#[],[]⟩,none,[],by simp,[]⟩:=⟨_,rfl⟩
 have hev:Evo ok w W:=(Evo.of_below hbel).mono fun b o hbo=>hok b o hbo
 have hbW:∀b∈bs,b<w.heap.size:=fun b hb=>by
  obtain⟨i,hi⟩:=List.getElem?_of_mem hb
  have hil:=(List.getElem?_eq_some_iff.1 hi).1
  have hvl:i<(toL it.cs x).length:=by rw[Qrh]; omega
  obtain⟨b',h1,tid,cs,h2,_⟩:=Qts hbox i _ (List.getElem?_eq_getElem hvl)
  rw[hi]at h1; grind
 have hGX:Ur Y.gl (okN X) X.w:=by
  rw[hX]
  exact(hG.keep hbel.size fun b o hbo=>hbel.block b (hok b o hbo)).weak fun b o hbo=>⟨.inl hbo,by simp,QC (hok b o hbo) hbel.size⟩
 have hGW:Ur Y.gl (okN X) W:=by
  have h:=hGX
  rw[show X.w=W by rw[hX]]at h
  exact h
 have hokR:∀b o,ok b o∨b∈bs→okR X (fun _=>0) (fun _=>undef) [] W b o:=fun b o hbo=>⟨.inl (by rw[hX]; exact hbo),by
  rcases hbo with h | h
  ·exact QC (hok b o h) hbel.size
  ·exact QC (hbW b h) hbel.size,by simp,by simp[Qk]⟩
 have hR:Rel X (fun _=>0) (fun _=>undef) (XS.flat ⟨Jgm (toL it.cs x) 1,Qfj Y.gl,[],[],[]⟩) a W:=by
  have hS:Sb (fun _=>0) X [] [] [] (Qk (fun _=>0) (fun _=>undef) []) a W :=
   { sz:=by rw[ha,hX]; grind,df:=by rw[ha,hX],fr:=by rw[hX]; simp,pn:=by rw[hX]; simp,tm:=by simp,bel:=by rw[hX]; exact Zt.refl _ _ _,dat:=trivial,obj:=by simp,own:=by simp[Qk],dHH:=by simp,dHO:=by simp,dOO:=by simp[Qk] }
  have e:XS.flat ⟨Jgm (toL it.cs x) 1,Qfj Y.gl,[],[],[]⟩=⟨Jgm (toL it.cs x) 1++Qfj Y.gl,[]⟩:=by simp[XS.flat]
  rw[e]
  refine Rel.ofSb hS rfl fun e he=>?_
  rcases QZ.1 he with he | he
  ·obtain⟨j,v,hj,rfl⟩:=Q43 he
   obtain⟨b,hb1,tid,cs,hb2,hb3⟩:=Qts hbox j v hj
   have hjl:=(List.getElem?_eq_some_iff.1 hj).1
   rw[Qrh]at hjl
   have hbm:=List.mem_of_getElem? hb1
   refine⟨fun _=>⟨[Q40 b],?_,Q40 b,rfl,b,0,cs,rfl,(rt v.1).weak ((rt v.1).evo hb3 hev) fun b o hbo=>hokR b o (.inl hbo),fun j2 u2 hu2=>⟨hokR _ _ (.inr hbm),?_⟩⟩,.inl (Qf a)⟩
   ·rw[R5 (Nat.ble_eq_true_of_le (by grind))]
    exact hag j b hb1
   ·have hbw:W.heap[b]?=some (.cells cs.toArray tid (0,0)):=(hbel.block b (hbW b hbm)).trans hb2
    simp_all [World.cell?,QW]
  ·exact Q4z hGW (fun b o (hbo:okN X b o)=>⟨.inl hbo.1,(by have h:=hbo.2.2; rw[hX]at h; exact h),by simp,by simp[Qk]⟩) e he
 have hC:YCx P Y K fn.ntmps ok w bs X O0:=by
  refine⟨by rw[hX],by rw[hX],by rw[hX],by rw[hX],by rw[hX],⟨hK,hGX⟩,fun b hb=>?_,fun b o hbo=>?_,by rw[hX]; exact hbel.size⟩
  ·obtain⟨q1,q2,q3⟩:=hlt _ _ _ hJ0 b hb
   rw[hX]
   grind
  grind
 have hJX:J ([]:List it.u.De).length O0 X.w:=by rw[hX]; exact hJ0
 refine Qcx (a0:=a) hT hst hlt hy ha0 an (Q:=bodyPost P fn _) ?_ hes (fun e S' acc' h'=>?_) hC hJX hR rfl fun X2 O2 e β' ρ' S' a' w' acc' h1 h2 h3 h4 h5 h6=>?_
 ·rintro⟨_,_,h⟩
  obtain⟨⟨v,hv⟩,_⟩:=h
  cases hv
 ·grind
 ·have hfin:acc'=es→bodyPost P fn (fun e B=>(∃v,e=.returned v)∧∃O,J es.length O B) .ret a' w':=fun he=>by
   subst he
   refine⟨h5.df.trans h2.hd,.tuple #[],?_,⟨_,rfl⟩,O2,hst _ _ _ _ h3 (Qxy h5 h2.hl)⟩
   simp[results,hres]
  cases e with
  | x i=>cases h1
  | n=>exact hfin (by injection h1)
  | r=>exact hfin (by injection h1)
end Gx

/- From a statement's arguments to data, and back to the statement. -/
namespace Gx
open Go Go.RowKit Gd Go.WideShapes Go.ChangeShapes
set_option linter.unusedVariables false
set_option linter.unusedSimpArgs false
def Qj7{α:Type}(g:α→Prop):Nat→K9 α→Prop
 | 0,_=>False
 | n+1,x=>g x.x∧Q3g (Qj7 g n) x.ks
theorem Qn6{α:Type}{g:α→Prop}:∀{n m:Nat} {x:K9 α},n≤m→Qj7 g n x→Qj7 g m x
 | 0,_,_,_,h=>h.elim
 | n+1,0,_,hle,_=>absurd hle (by omega)
 | n+1,m+1,x,hle,h=>⟨h.1,h.2.1,fun y hy=>Qn6 (by omega) (h.2.2 y hy)⟩
theorem Jkn{α:Type}{g:α→Prop}{x:α}{ks:List (K9 α)}(h:g x)(hk:Q3g (fun y=>∃n,Qj7 g n y) ks):∃n,Qj7 g n (.mk x ks):=by
 have:∃n,∀y∈ks,Qj7 g n y:=by
  have h2:=hk.2
  clear hk
  induction ks with
  | nil=>simp_all
  | cons z l ih =>
   obtain⟨n,hn⟩:=ih fun y hy=>h2 y (.tail _ hy)
   obtain⟨m,hm⟩:=h2 z (.head _)
   refine⟨max n m,fun y hy=>?_⟩
   rcases QX.1 hy with rfl | hy
   ·exact Qn6 (Nat.le_max_right _ _) hm
   grind [Qn6,Nat.le_max_left]
 obtain⟨n,hn⟩:=this
 exact⟨n+1,h,hk.1,hn⟩
def gd:(t:Ty)→t.De→Prop
 | .int k,x=>Qwv k x
 | .bool,_=>True
 | .str,x=>Ji2 x
 | .sl e,x=>Q3g (gd e) x
 | .arr _ e,x=>∀y∈x,gd e y
 | .unit,_=>True
 | .pr f r,x=>gd f x.1∧gd r x.2
 | .st fs,x=>gd fs x
 | .ref,_=>True
 | .rose fs,x=>∃n,Qj7 (gd fs) n x
abbrev Tl(P:Program)(t:TypeId)(ty:Ty):Prop:=Qlf P (rt ty) t (gd ty)
section
variable {P:Program}
theorem Qn7{t:TypeId}{k:IntKind}(ht:P.underlying t=some (.int k))(hc:P.cellsOf t=1):Tl P t (.int k):=Jfc ht hc
theorem Q90{t:TypeId}(ht:P.underlying t=some .bool)(hc:P.cellsOf t=1):Tl P t .bool:=by
 have:=Q88 ht hc
 exact⟨this.1,this.2.1,fun enc w n cs x h=>let⟨y,h1,_⟩:=this.2.2 enc w n cs x h; ⟨y,h1,trivial⟩⟩
theorem Qxz{t:TypeId}(ht:P.underlying t=some .string)(hc:P.cellsOf t=1):Tl P t .str:=Jfd ht hc
inductive Jko(P:Program)(ff:Array Field):Ty→Nat→Nat→Prop
 | last {ty:Ty} {i off t:Nat} {f:Field} (ho:Tl P t ty) (hi:ff[i]?=some f) (ht:f.type=t) (hoff:f.offset=off):Jko P ff ty i off
 | pr {ty r:Ty} {i off t:Nat} {f:Field} (ho:Tl P t ty) (hi:ff[i]?=some f) (ht:f.type=t) (hoff:f.offset=off) (hr:Jko P ff r (i+1) (off+ty.size)):Jko P ff (.pr ty r) i off
theorem Jgn{ok:Ok}{w:World}{β:Nat→Nat}{ρ:Nat→Value}:Qle (Qk β ρ []) [] ok w:=⟨by simp[Qk],.nil,by simp⟩
section
variable {β:Nat→Nat} {ρ:Nat→Value} {ok:Ok} {w:World}
theorem Jw2{t0:Ty}{x0:t0.De}{v0:Value}(h0:isV (rt t0) ok w x0 v0) :
  ∀e∈[(⟨0,[],.d t0 x0⟩:En)],∃cs,[v0][e.t]?=some (e.av.val cs)∧cr β ρ ok w false e.av cs:=by
 intro e he
 obtain⟨c0,p0,q0⟩:=Qne (β:=β) (ρ:=ρ) h0
 grind
theorem Jgo{c:Con}{x:c.Γ.De}{y:Qaz c.Δ}{f:FuncId}{args:Array Value}(h:Calls P f args w (Qzl [] w (Q4k c β ρ ok [] w x y)))(hy:Qa0 (Qh7 c.Δ y).env=.d .bool true):Calls P f args w (Ret w (R1 Qwp ok w true)):=by
 refine h.mono ?_
 rintro e w' ⟨v,rfl,⟨β',ρ',_,⟨cs,h1,h2⟩,_⟩,hb⟩
 refine⟨v,rfl,?_,hb⟩
 rw[hy]at h1 h2
 have h2':cs=[.bool true]:=h2
 subst h2'
 exact Qrz.2 h1
end
end
end Gx

/- Annotations that follow from the code, but for some pieces. -/
namespace Gx
open Go Go.RowKit Gd
set_option linter.unusedVariables false
inductive Pc where
 | lp (ks ms:List Nat) (Γ:Shp) (exs:Exs)
 | jn (ks ms:List Nat) (exs:Exs)
 | gh (g:Hn)
 | rg (h:Hn)
 | an (a:An)
 | dd
def Qcy:List (Nat×Pc)→Nat→List Pc
 | [],_=>[]
 | (k,p)::l,i=>bif Nat.beq k i then p::Qcy l i else Qcy l i
def Tm:List Pc→An→An
 | [],a=>a
 | .lp ks ms Γ exs::r,a=>.lp ks ms Γ exs (Tm r a)
 | .jn ks ms exs::r,a=>.jn ks ms exs (Tm r a)
 | .gh g::r,a=>.gh g (Tm r a)
 | .rg h::_,_=>.reg h
 | .an a::_,_=>a
 | .dd::_,_=>.gh (.tl .done) .nil
def Jw3:Nat→List Nat→Nat→Nat
 | _,[],i=>i
 | f,k::l,i=>bif Nat.beq f k then i else Jw3 f l (i+1)
def Jkp(K:List Nat):List Oper→Hn
 | []=>.done
 | o::l=>match o.op with
  | .call ⟨.value (.func f),_,_⟩=>.call (Jw3 f K 0) (Jkp K l)
  | _=>.n 1 (Jkp K l)
def Qfr(K:List Nat)(ps:List (Nat×Pc)):Code→Nat→An×Nat
 | .region _ ⟨ops⟩ _,i=>(Tm (Qcy ps i) (.reg (Jkp K ops)),i+1)
 | .seq a b,i=>match Qfr K ps a (i+1)with
  | (x,j)=>match Qfr K ps b j with
   | (y,k)=>(Tm (Qcy ps i) (.two x y),k)
 | .cond _ a b,i=>match Qfr K ps a (i+1)with
  | (x,j)=>match Qfr K ps b j with
   | (y,k)=>(Tm (Qcy ps i) (.two x y),k)
 | .block _ a,i=>match Qfr K ps a (i+1)with
  | (x,j)=>(Tm (Qcy ps i) (.un x),j)
 | .scope a,i=>match Qfr K ps a (i+1)with
  | (x,j)=>(Tm (Qcy ps i) (.un x),j)
 | .loop a,i=>match Qfr K ps a (i+1)with
  | (x,j)=>(Tm (Qcy ps i) x,j)
 | _,i=>(Tm (Qcy ps i) .nil,i+1)
def Jut(K:List Nat)(ps:List (Nat×Pc))(c:Option Code):An:=match c with
 | some c=>(Qfr K ps c 0).1
 | none=>.nil
def sL:List Sk→Sk
 | []=>.nil
 | x::l=>.cons x (sL l)
def sDe:List Ty→Nat→List (Nat×Sk)
 | [],_=>[]
 | t::l,i=>(i,.d t)::sDe l (i+1)
def sD(l:List Ty):Shp:=⟨sDe l 0,[]⟩
end Gx

/- Functions of the library, by the kit's contracts; the package-level variables that a statement lists. -/
namespace Gx
open Go Go.RowKit Go.Lib Go.Sort Gd
set_option linter.unusedVariables false
set_option linter.unusedSimpArgs false
set_option linter.constructorNameAsVariable false
section
variable {P:Program} {gl:List (Nat×Σ t:Ty,t.De)}
end
end Gx

/- slices.Clone. -/
namespace Gx
open Go Go.RowKit Gd
set_option linter.unusedVariables false
set_option linter.unusedSimpArgs false
section
variable {P:Program} {Y:TX}
theorem Jpo{t el:TypeId}{A:Option Addr}{m c:Nat}{w:World}(hu:(underlying t).run P w=.ok (.slice el) w):(Op.equal t (.slice A m c) (.slice none 0 0)).run P w=.ok A.isNone w:=by
 show(Op.equalIn (9999+1) t _ _).run P w=_
 rw[Op.equalIn]
 cases A<;>simp[Sem.run_bind,hu]
abbrev Qbb(u:Ty):Shp:=⟨[(0,.d (.sl u))],[]⟩
abbrev Bp(e:TypeId)(u:Ty):Shp:=⟨[(0,.s 0)],[(0,.row e u)]⟩
def Tn(f:FuncId)(u:Ty)(Δ:Shp)(fc:List u.De→Option Δ.De):Con:=⟨f,Qbb u,[Δ],fc,[]⟩
def Ju{α:Type}(bytes:Nat)(xs:List α):Option (List α):=(app bytes [] xs).bind fun zs=>some zs
def Jgp(Y:TX)(fn:Func)(c:Con):Ex→XS→Option (Qaz c.Δ):=fun e S=>match e with
 | .r=>fin Y fn c.Δ S
 | _=>none
def slT(T:Tab)(t:TypeId):Bool:=match Qi T t with
 | some te=>H5 (Yx te.d)
 | none=>false
def S2c(S1:XS)(v:AV)(b:Bool):XS:=(S1.put 3 [] v).put 4 [] (.d .bool b)
theorem Qx0(hT:Qy P Y.T)(hmix:P.follows .mixedOrders=true){fn:Func}{c:Con}(hf:P.funcs[c.f]?=some fn){v0:c.Γ.De→AV}{fA:c.Γ.De→Option (Qaz c.Δ)}(hn:fn.ntmps=8){R0 A C:Code}{i1:Nat}{o1 o2:Oper}(hb:fn.body=some (.seq R0 (.seq (.seq (.region i1 ⟨[o1,o2]⟩ false) (.cond (.tmp 4) A .skip)) C)))
  (h1d:o1.dst=some 3) (h1o:o1.op=.move (.tmp 0)) (h1g:o1.guard=none) (h2d:o2.dst=some 4) {t yt:TypeId} (h2o:o2.op=.binOp .eql t (.tmp 3) (.const (.slice none 0 0)) yt) (h2g:o2.guard=none) (hsl:slT Y.T t=true)
  (hku:(Nat.ble c.Γ.env.length 8&&(Dm c.Γ.env 0&&Nat.blt c.Γ.env.length 100000))=true) {an0 anA anC:An} (hoff:∀x,okW 8 (XS.put (S00 Y c x) 2 [] .ns) 3=true∧okW 8 (XS.put (S00 Y c x) 2 [] .ns) 4=true)
  (hen:∀x,(⟨0,[],v0 x⟩:En)∈(((S00 Y c x).put 2 [] .ns).flat).env)
  (hv0:∀(x:c.Γ.De) (X:Cx) (β:Nat→Nat) (ρ:Nat→Value) (a:Act) (w:World) (cs:List Value),Rel X β ρ (((S00 Y c x).put 2 [] .ns).flat) a w→cr β ρ (okR X β ρ (((S00 Y c x).put 2 [] .ns).flat).mem w) w false (v0 x) cs →
   ∃A0 m0 c0,(v0 x).val cs=.slice A0 m0 c0∧(A0=none→fA x=c.fn x))
  (h0:∀x,Ut Y [] 8 0 an0 R0 (S00 Y c x) (fun e S=>match e with | .n=>some S | _=>none)=some ((S00 Y c x).put 2 [] .ns))
  (hA:∀x,Ut Y [] 8 0 anA A (S2c ((S00 Y c x).put 2 [] .ns) (v0 x) true) (Jgp Y fn c)=fA x)
  (hC:∀x,Ut Y [] 8 0 anC C (S2c ((S00 Y c x).put 2 [] .ns) (v0 x) false) (Jgp Y fn c)=c.fn x):Qa3 P Y.gl c:=by
 obtain⟨te,el,hte,htd⟩:∃te el,Qi Y.T t=some te∧te.d=.slice el:=by
  unfold slT at hsl
  split at hsl
  ·rename_i te hte
   cases hd:Yx te.d with
   | none=>rw[hd]at hsl; cases hsl
   | some el=>exact⟨te,el,hte,Yt hd⟩
  ·cases hsl
 simp only[QQ]at hku
 refine Jco hT hf rfl hb (by rw[hn]; exact hku.1) hku.2.1 hku.2.2 fun xs y X β ρ a w Q hy hG hX hr hp hR H=>?_
 have hX8:X.n=8:=hX.trans hn
 have hK:KsX P Y X []:=⟨(fun _ h=>by cases h),hG⟩
 refine wp_seq (Zb hT hmix hK hX8 hr hp an0 hR (h0 xs) fun e β1 ρ1 S1 a1 w1 k1 k2 k3=>?_)
 cases e with
 | x i=>cases k1
 | r=>cases k1
 | n =>
  simp only[Option.some.injEq]at k1
  subst k1
  obtain⟨cs,q1,q2⟩:=(k3.en (hen xs)).1 (Qf a1)
  obtain⟨A0,m0,c0,hv,hnil⟩:=hv0 xs X β1 ρ1 a1 w1 cs k3 q2
  have hev0:a1.eval (.tmp 0)=.slice A0 m0 c0:=by
   rw[←hv]
   have q1':a1.tmps[0]?=some ((v0 xs).val cs):=q1
   show a1.tmps.getD 0 undef=_
   simp_all
  have hokd3:=(Vc (S:=(S00 Y c xs).put 2 [] .ns) (show okW 8 _ 3=true from(hoff xs).1) hX8 hr)
  have hokd4:=(Vc (S:=(S00 Y c xs).put 2 [] .ns) (show okW 8 _ 4=true from(hoff xs).2) hX8 hr)
  have r1:=k3.put0 hokd3.1 (x:=v0 xs) (c:=cs) q2
  have r2:=r1.put0 hokd4.1 (x:=.d .bool A0.isNone) (c:=[.bool A0.isNone]) rfl
  have hfin:∀b,A0.isNone=b→Rel X β1 ρ1 (S2c ((S00 Y c xs).put 2 [] .ns) (v0 xs) b).flat ((a1.put (some 3) ((v0 xs).val cs)).put (some 4) (.bool b)) w1:=fun b hb=>by
   subst hb
   have e:(S2c ((S00 Y c xs).put 2 [] .ns) (v0 xs) A0.isNone).flat=(((((S00 Y c xs).put 2 [] .ns).flat).put 3 [] (v0 xs)).put 4 [] (.d .bool A0.isNone)):=by
    exact(Ky (S:=((S00 Y c xs).put 2 [] .ns).put 3 [] (v0 xs)) hokd4.2).trans (congrArg (fun z=>St.put z 4 [] (.d .bool A0.isNone)) (Ky hokd3.2))
   rw[e]
   exact r2
  have hev3:(a1.put (some 3) ((v0 xs).val cs)).eval (.tmp 3)=.slice A0 m0 c0:=by
   have hlt:3<a1.tmps.size:=by rw[k3.sz,hX8]; decide
   show(a1.put (some 3) ((v0 xs).val cs)).tmps.getD 3 undef=_
   rw[←hv]
   simp[Act.put,QI,hlt]
  have hkeep:∀b,Vb ((S00 Y c xs).put 2 [] .ns) (S2c ((S00 Y c xs).put 2 [] .ns) (v0 xs) b) β1 β1 ρ1 ρ1:=fun b=>⟨rfl,rfl,rfl,agP.refl _ _ _⟩
  refine wp_seq (wp_seq ?_)
  refine wp_region_list ?_
  refine Jm (K0 h1g _) (Ym (w':=w1) (v:=.slice A0 m0 c0) (by
   simp_all [execOp]) ?_)
  rw[h1d,←hv]
  refine Jm (K0 h2g _) (Ym (w':=w1) (v:=.bool A0.isNone) (by
   unfold execOp
   rw[h2o]
   have hu:=Jw hT w1 hte
   rw[htd]at hu
   have he:=Jpo (A:=A0) (m:=m0) (c:=c0) hu
   simp[hev3,show(a1.put (some 3) ((v0 xs).val cs)).eval (.const (.slice none 0 0))=.slice none 0 0 from rfl,eqGuard,binOp,he]) ?_)
  rw[h2d]
  have hev4:∀b:Bool,((a1.put (some 3) ((v0 xs).val cs)).put (some 4) (.bool b)).eval (.tmp 4)=.bool b:=fun b=>by
   have hlt:4<a1.tmps.size:=by rw[k3.sz,hX8]; decide
   show((a1.put (some 3) ((v0 xs).val cs)).put (some 4) (.bool b)).tmps.getD 4 undef=_
   simp[Act.put,QI,hlt]
  cases hA0:A0.isNone with
  | true =>
   have hyy:fA xs=some y:=(hnil (by simp_all)).trans hy
   refine wp_cond_split (hev4 true) (fun _=>?_) (fun h=>by cases h)
   refine Zb hT hmix hK hX8 hr hp anA (hfin true hA0) ((hA xs).trans hyy) fun e β' ρ' S' a' w' g1 g2 g3=>?_
   cases e with
   | x i=>cases g1
   | n=>cases g1
   | r=>exact H .r β' ρ' S' a' w' g1 ((k2.trans (hkeep true)).trans g2) g3
  | false =>
   refine wp_cond_split (hev4 false) (fun h=>by cases h) (fun _=>?_)
   refine wp_skip ?_
   refine Zb hT hmix hK hX8 hr hp anC (hfin false hA0) ((hC xs).trans hy) fun e β' ρ' S' a' w' g1 g2 g3=>?_
   cases e with
   | x i=>cases g1
   | n=>cases g1
   | r=>exact H .r β' ρ' S' a' w' g1 ((k2.trans (hkeep false)).trans g2) g3
theorem Vv(hT:Qy P Y.T)(hmix:P.follows .mixedOrders=true){f:FuncId}{fn:Func}(hf:P.funcs[f]?=some fn){u:Ty}{Δ:Shp}{fc:List u.De→Option Δ.De}(hn:fn.ntmps=8){R0 A C:Code}{i1:Nat}{o1 o2:Oper}(hb:fn.body=some (.seq R0 (.seq (.seq (.region i1 ⟨[o1,o2]⟩ false) (.cond (.tmp 4) A .skip)) C)))
  (h1d:o1.dst=some 3) (h1o:o1.op=.move (.tmp 0)) (h1g:o1.guard=none) (h2d:o2.dst=some 4) {t yt:TypeId} (h2o:o2.op=.binOp .eql t (.tmp 3) (.const (.slice none 0 0)) yt) (h2g:o2.guard=none) (hsl:slT Y.T t=true)
  {y0:Δ.De} (happ:fc []=some y0) {an0 anA anC:An} (hoff:okW 8 (XS.put (S00 Y (Tn f u Δ fc) []) 2 [] .ns) 3=true∧okW 8 (XS.put (S00 Y (Tn f u Δ fc) []) 2 [] .ns) 4=true)
  (h0:∀xs:List u.De,Ut Y [] 8 0 an0 R0 (S00 Y (Tn f u Δ fc) xs) (fun e S=>match e with | .n=>some S | _=>none)=some ((S00 Y (Tn f u Δ fc) xs).put 2 [] .ns))
  (hA:∀xs:List u.De,Ut Y [] 8 0 anA A (S2c ((S00 Y (Tn f u Δ fc) xs).put 2 [] .ns) (.d (.sl u) xs) true) (Jgp Y fn (Tn f u Δ fc))=some y0)
  (hC:∀xs:List u.De,Ut Y [] 8 0 anC C (S2c ((S00 Y (Tn f u Δ fc) xs).put 2 [] .ns) (.d (.sl u) xs) false) (Jgp Y fn (Tn f u Δ fc))=fc xs):Qa3 P Y.gl (Tn f u Δ fc) :=
 Qx0 hT hmix (c:=Tn f u Δ fc) hf (v0:=fun xs=>.d (.sl u) xs) (fA:=fun _=>some y0) hn hb h1d h1o h1g h2d h2o h2g hsl rfl (fun _=>hoff) (fun _=>.tail _ (.head _))
  (fun xs X β ρ a w cs _ hc=>by
   obtain⟨A0,m0,c0,hv,hl,hle,hat⟩:Qwq (rt u) _ w xs ((AV.d (.sl u) xs).val cs):=U9.1 ⟨cs,hc,rfl⟩
   refine⟨A0,m0,c0,hv,fun hA0=>?_⟩
   have hxs:xs=[]:=by
    grind
   subst hxs
   exact happ.symm) h0 hA hC
def Qj8{α:Type}(bytes:Nat)(xs:List α):Option (List α×List α):=(app bytes [] xs).bind fun zs=>some (xs,zs)
abbrev Jkq(e:TypeId)(u:Ty):Shp:=⟨[(0,.s 5000)],[(5000,.row e u)]⟩
abbrev Jrm(e:TypeId)(u:Ty):Shp:=⟨[(0,.s 0)],[(5000,.row e u),(0,.row e u)]⟩
theorem Qx1(hT:Qy P Y.T)(hmix:P.follows .mixedOrders=true){fn:Func}{c:Con}(hf:P.funcs[c.f]?=some fn){fA:c.Γ.De→Option (Qaz c.Δ)}(hn:fn.ntmps=8){R0 A C:Code}{i1:Nat}{o1 o2:Oper}(hb:fn.body=some (.seq R0 (.seq (.seq (.region i1 ⟨[o1,o2]⟩ false) (.cond (.tmp 4) A .skip)) C)))
  (h1d:o1.dst=some 3) (h1o:o1.op=.move (.tmp 0)) (h1g:o1.guard=none) (h2d:o2.dst=some 4) {t yt:TypeId} (h2o:o2.op=.binOp .eql t (.tmp 3) (.const (.slice none 0 0)) yt) (h2g:o2.guard=none) (hsl:slT Y.T t=true)
  (hku:(Nat.ble c.Γ.env.length 8&&(Dm c.Γ.env 0&&Nat.blt c.Γ.env.length 100000))=true) {an0 anA anC:An} (hoff:∀x,okW 8 (XS.put (S00 Y c x) 2 [] .ns) 3=true∧okW 8 (XS.put (S00 Y c x) 2 [] .ns) 4=true)
  {g:List En} (hen:∀x,(((S00 Y c x).put 2 [] .ns).flat).env=⟨2,[],.ns⟩::⟨0,[],.s 5000⟩::g) {e:TypeId} {u:Ty} {fx:c.Γ.De→List u.De} (hm:∀x,Qg (((S00 Y c x).put 2 [] .ns).flat).mem 5000=some (.row e u (fx x))) (hnil:∀x,fx x=[]→fA x=c.fn x)
  (h0:∀x,Ut Y [] 8 0 an0 R0 (S00 Y c x) (fun e S=>match e with | .n=>some S | _=>none)=some ((S00 Y c x).put 2 [] .ns))
  (hA:∀x,Ut Y [] 8 0 anA A (S2c ((S00 Y c x).put 2 [] .ns) (.s 5000) true) (Jgp Y fn c)=fA x)
  (hC:∀x,Ut Y [] 8 0 anC C (S2c ((S00 Y c x).put 2 [] .ns) (.s 5000) false) (Jgp Y fn c)=c.fn x):Qa3 P Y.gl c :=
 Qx0 hT hmix hf (v0:=fun _=>.s 5000) hn hb h1d h1o h1g h2d h2o h2g hsl hku hoff (fun x=>by rw[hen x]; grind)
  (fun x X β ρ a w cs hR hc=>by
   obtain⟨⟨v,rfl,hz⟩,A,m,c1,hρ⟩:=hc
   have hob:=(hR.ob (hm x)).1
   have hob':(ml (ρ 5000) e (rt u) (fx x)).p _ w:=hob
   obtain⟨hl,cs1,hown,_⟩:=hob'
   rcases hz with rfl | ⟨h00,A0,rfl⟩
   ·refine⟨A,m,c1,hρ,fun hA0=>hnil x ?_⟩
    subst hA0
    refine List.length_eq_zero_iff.1 ?_
    rw[←hl]
    rcases hown.2 with⟨hv,h0⟩ | ⟨g,cap,cur,fz,hv,_⟩
    ·exact h0
    grind
   ·refine⟨A0,0,0,rfl,fun _=>hnil x ?_⟩
    refine List.length_eq_zero_iff.1 ?_
    rw[←hl,h00]; rfl) h0 hA hC
end
end Gx

/- The keys of a map of one's own, in order: slices.Sorted(maps.Keys(m)) at keys that are ints. -/
namespace Gx
open Go Go.RowKit Gd
set_option linter.unusedVariables false
set_option linter.unusedSimpArgs false
def Fr(z:Int):Bool:=decide (-9223372036854775808≤z)&&decide (z≤9223372036854775807)
def Q91(x:Int):List Int→List Int
 | []=>[x]
 | y::r=>bif decide (x≤y)then x::y::r else y::Q91 x r
def Qcz:List Int→List Int
 | []=>[]
 | x::r=>Q91 x (Qcz r)
def Qi7{β:Type}(xs:List (Int×β)):Option (List Int):=bif Nat.ble (xs.length*8) 140737488355328&&xs.all (fun q=>Fr q.1)then some (Qcz (xs.map Prod.fst))else none
theorem Qn8(x:Int):∀l:List Int,(Q91 x l).Perm (x::l)
 | []=>.refl _
 | y::r=>by
  unfold Q91
  cases h:decide (x≤y)
  ·exact((Qn8 x r).cons y).trans (.swap ..)
  ·exact .refl _
theorem Au:∀l:List Int,(Qcz l).Perm l
 | []=>.refl _
 | x::r=>(Qn8 x _).trans ((Au r).cons x)
theorem Qpm(x:Int):∀l:List Int,l.Pairwise (·≤·)→(Q91 x l).Pairwise (·≤·)
 | [],_=>by simp[Q91]
 | y::r,h=>by
  unfold Q91
  cases hd:decide (x≤y)
  ·have hd:=of_decide_eq_false hd
   refine List.pairwise_cons.2 ⟨fun z hz=>?_,Qpm x r (List.pairwise_cons.1 h).2⟩
   rcases QX.1 ((Qn8 x r).mem_iff.1 hz)with rfl | hz
   ·omega
   simp_all
  ·have hd:=of_decide_eq_true hd
   refine List.pairwise_cons.2 ⟨fun z hz=>?_,h⟩
   rcases QX.1 hz with rfl | hz
   ·exact hd
   grind [Int.le_trans,List.pairwise_cons]
theorem Qi8:∀l:List Int,(Qcz l).Pairwise (·≤·)
 | []=>.nil
 | x::r=>Qpm x _ (Qi8 r)
theorem Qqc{ss l:List Int}(h:ss.Perm l):ss.mergeSort (fun x y=>decide (x≤y))=Qcz l:=by
 refine List.Perm.eq_of_pairwise (le:=fun a b:Int=>a≤b) (fun a b _ _ h1 h2=>Int.le_antisymm h1 h2) ?_ (Qi8 l) (((KV _ _).trans h).trans (Au l).symm)
 exact(List.pairwise_mergeSort (fun a b c h1 h2=>by grind) (fun a b=>by grind) ss).imp fun h=>of_decide_eq_true h
section
variable {P:Program} {gl:List (Nat×Σ t:Ty,t.De)}
abbrev inK(g tid:Nat)(v:Ty):Shp:=⟨[(0,.f g (.cons (.p 5000 []) .nil))],[(5000,.var tid (.m 5001)),(5001,.map (.int .i64) v)]⟩
abbrev Jpp:Shp:=⟨[(0,.d (.sl (.int .i64)))],[]⟩
def Qc0(_:Value):Option (DataW Unit×List MemPlace):=some (.lit (.bool true),[])
theorem wfZ{z:Int}(h:Fr z=true):(Lit.int .i64 z).wf=true:=by
 unfold Fr at h
 simp only[QQ,decide_eq_true_eq]at h
 have h1:IntKind.i64.min = -9223372036854775808:=rfl
 have h2:IntKind.i64.max=9223372036854775807:=rfl
 grind [Lit.wf]
def Jkr:Value→Lit
 | .int k z=>.int k z
 | _=>.bool false
theorem Qx2{kt:TypeId}(hkt:P.underlying kt=some (.int .i64)){v:Ty}{ok:Ok}{w:World}:∀{xs:List (Int×v.De)} {l:List MapEntry},E1 (rt (.int .i64)) (rt v) ok w xs l→xs.all (fun q=>Fr q.1)=true →
  l.map MapEntry.key=xs.map (fun q=>Value.int .i64 q.1)∧∀e∈l,Go.WideElems.rd (H:=Unit) P kt Qc0 e=some (Jkr e.key,.lit (.bool true))
 | [],l,h,_=>by cases(show l=[]from h); grind
 | x::xs,l,h,hk=>by
  obtain⟨e,es',rfl,q1,_,q3⟩:=h
  simp only[JP,QQ]at hk
  have hx:e.key=.int .i64 x.1:=Jbn.1 q1
  obtain⟨i1,i2⟩:=Qx2 hkt q3 hk.2
  refine⟨by simp[hx,i1],fun e' he'=>?_⟩
  rcases QX.1 he' with rfl | he'
  ·unfold Go.WideElems.rd
   rw[hx,Go.Maps.keyOf_int_mk hkt (wfZ hk.1)]
   rfl
  ·exact i2 e' he'
theorem Jks{kt:TypeId}(hkt:P.underlying kt=some (.int .i64)){v:Ty}{xs:List (Int×v.De)}{ok:Ok}{w:World}{b:Nat}(h:(R4 b (rt (.int .i64)) (rt v) xs).p ok w)(hlen:xs.length*8≤140737488355328)(hk:xs.all (fun q=>Fr q.1)=true) :
  ∃D0:DataW Unit,w.ownsMap P kt Qc0 b xs.length D0∧Maps.size D0=xs.length∧(intKeys D0).Perm (xs.map Prod.fst):=by
 obtain⟨es,clock,h1,h2,h3,h4,h5⟩:=h
 obtain⟨k1,k2⟩:=Qx2 hkt h2 hk
 have hl:es.size=xs.length:=by
  have:=congrArg List.length k1
  grind
 have hperm:=Go.WideShapes.sorted_perm (es.toList.map (Go.WideElems.rg P kt (Qc0)))
 have hrg:∀e∈es.toList,Go.WideElems.rg P kt Qc0 e=(Jkr e.key,.lit (.bool true)):=fun e he=>Go.WideElems.rg_of (k2 e he)
 refine⟨_,⟨es,clock,h1,⟨?_,⟨h5,h4,?_⟩,fun e he=>⟨_,k2 e he⟩⟩,Nat.le_of_eq hl,rfl⟩,?_,?_⟩
 ·rw[hl]
  have:maxLen=9223372036854775807:=rfl
  omega
 ·rw[show(es.toList.map (fun e=>e.key))=xs.map (fun q=>Value.int .i64 q.1)from k1,show xs.map (fun q=>Value.int .i64 q.1)=(xs.map Prod.fst).map (Value.int .i64)from by simp]
  grind
 ·show List.length _=_
  rw[hperm.length_eq,XV]; simpa using hl
 ·refine(hperm.map _).trans ?_
  rw[ZQ,show(es.toList.map ((fun p:Lit×DataW Unit=>intOf p.1)∘Go.WideElems.rg P kt Qc0))=es.toList.map (fun e=>intOf (Jkr e.key))from List.map_congr_left fun e he=>by simp[hrg e he],
   show(es.toList.map (fun e=>intOf (Jkr e.key)))=(es.toList.map MapEntry.key).map (fun u=>intOf (Jkr u))from by simp,k1]
  rw[ZQ]
  exact .of_eq (List.map_congr_left fun q _=>rfl)
theorem Jkt{w:World}{ok:Ok}{B:Nat}{kt:TypeId}{u:Value}{l:List Int}(h:w.ownsRow B kt 1 u l.length (l.map (Value.int .i64)))(hok:∀b o,B≤b→b<w.heap.size→ok b o):isV (rSl (Tb .i64)) ok w l u:=by
 refine U9.2 ?_
 rcases h.2 with⟨rfl,hz⟩ | ⟨g,cap,cur,rfl,hb,hg,r1,r2,r3,r4⟩
 ·exact⟨none,0,0,rfl,hz,QU _,fun h0=>absurd h0 (by omega)⟩
 ·refine⟨_,_,_,rfl,rfl,r1,fun _=>⟨g,0,rfl,fun i x hi=>⟨[.int .i64 x],rfl,fun j v hj=>?_⟩⟩⟩
  match j,hj with
  | 0,hj =>
   simp only[ZB,Option.some.injEq]at hj
   subst hj
   refine⟨hok _ _ hb (Vg hg),?_⟩
   have hsz:(Tb .i64).size=1:=rfl
   have h1:(cur.toList.take (l.length*1))[i]?=some (Value.int .i64 x):=by rw[r4,JN,hi]; rfl
   have hil:=(List.getElem?_eq_some_iff.1 hi).1
   rw[List.getElem?_take_of_lt (by omega)]at h1
   simp_all [QW,XO,JS,World.cell?]
theorem Q44{f g tid:Nat}{kt:TypeId}{v:Ty}(hm:∀x:List (Int×v.De),(enc (inK g tid v) x).mem=[(5000,.var tid (.m 5001)),(5001,.map (.int .i64) v x)])(hkt:P.underlying kt=some (.int .i64))
  (h:∀(Bm b nn:Nat) (D0:DataW Unit) (w:World),Bm<w.heap.size→w.cell? ⟨Bm,0,none⟩=some (.map (some b))→w.ownsMap P kt Qc0 b nn D0→Maps.size D0≤maxLen→Maps.size D0*8≤140737488355328 →
   Calls P f #[.func (.func g) #[] #[.pointer (some ⟨Bm,0,none⟩)]] w fun e w'=>∃(u:Value) (ss:List Int),e=.returned u∧ss.Perm (intKeys D0)∧w'.ownsRow w.heap.size kt 1 u ss.length ((ss.mergeSort (fun x y=>decide (x≤y))).map encZ)∧(u=.slice none 0 0↔ss=[])∧Below w.heap.size w w') :
  Qa3 P gl ⟨f,inK g tid v,[Jpp],fun xs=>Qi7 xs,[5000,5001]⟩:=by
 intro ok w L β ρ x y vs hok hG hlen hL hargs hy
 have hy:Qi7 (β:=v.De) x=some y:=hy
 unfold Qi7 at hy
 obtain⟨hb,hy⟩:=bvT hy
 simp only[QQ]at hb
 have hy:=(Option.some.inj hy).symm
 have hmx:(enc (inK g tid v) x).mem=[(5000,.var tid (.m 5001)),(5001,.map (.int .i64) v x)]:=hm x
 have hO:Qle [Qe9 β ρ (β 5000) tid (.m 5001),R4 (β 5001) (rt (.int .i64)) (rt v) x] L ok w:=by
  have hL':Qle (Qk β ρ (enc (inK g tid v) x).mem) L ok w:=hL
  rw[hmx]at hL'
  exact hL'
 have p1:=(hO.1 _ (.head _)).1
 have p2:=(hO.1 _ (.tail _ (.head _))).1
 obtain⟨cs,c1,c2⟩:=p1
 have c2:cs=[.map (some (β 5001))]:=c2
 subst c2
 obtain⟨D0,o1,o2,o3⟩:=Jks hkt p2 (QV hb.1) hb.2
 have hvs:vs=[.func (.func g) #[] #[.pointer (some ⟨β 5000,0,none⟩)]]:=by
  obtain⟨cs,q1,vs',q2,c1,vs2,q3,q4,q5⟩:=hargs ⟨0,[],.f g (.cons (.p 5000 []) .nil)⟩ (.head _)
  have q4:c1=[.pointer (some ⟨β 5000,0,none⟩)]:=q4
  have q5:vs2=[]:=q5
  subst q4; subst q5; subst q3; subst q2
  match vs,hlen with
  | [u],_ =>
   simp only[ZB,Option.some.injEq]at q1
   rw[q1]; rfl
 subst hvs
 have hlen8:=QV hb.1
 have hmax:maxLen=9223372036854775807:=rfl
 refine(h (β 5000) (β 5001) _ D0 w (Vg c1) (by simp[World.cell?,c1]) o1 (by omega) (by omega)).mono ?_
 rintro e w' ⟨u,ss,rfl,hp,hrow,_,hbel⟩
 have hsort:ss.mergeSort (fun x y=>decide (x≤y))=y:=(Qqc (hp.trans o3)).trans hy.symm
 have hln:ss.length=y.length:=by rw[←hsort]; simp[KV]
 rw[hsort,hln]at hrow
 have hmem:Qk β ρ ((Qh7 (⟨f,inK g tid v,[Jpp],fun xs=>Qi7 xs,[5000,5001]⟩:Con).Δ y).mem++roM (⟨f,inK g tid v,[Jpp],fun xs=>Qi7 xs,[5000,5001]⟩:Con) x)=[Qe9 β ρ (β 5000) tid (.m 5001),R4 (β 5001) (rt (.int .i64)) (rt v) x]:=by
  show Qk β ρ ([]++rdM [5000,5001] (enc (inK g tid v) x).mem)=_
  rw[hmx]; rfl
 have hlt:∀t∈[Qe9 β ρ (β 5000) tid (.m 5001),R4 (β 5001) (rt (.int .i64)) (rt v) x],∀g,t.blks g→g<w.heap.size:=fun t ht g hg=>t.lt (hO.1 t ht).1 g hg
 refine⟨u,rfl,⟨β,ρ,fun i hi=>⟨rfl,rfl⟩,⟨[u],rfl,?_⟩,?_,?_⟩,Zt.of _ hbel⟩
 ·rw[hmem]
  refine⟨u,rfl,U9.1 (Jkt hrow fun b o h1 h2=>⟨.inr h1,h2,by simp,fun t ht hc=>?_⟩)⟩
  have:=hlt t ht b (t.cb hc)
  omega
 ·rw[hmem]
  intro t ht
  refine⟨?_,fun g hg=>.inr ((hO.1 t ht).2.1 g hg)⟩
  have hk:∀b o,ok b o→Jn (okL L ok) w.heap.size (fun _=>0) [] [Qe9 β ρ (β 5000) tid (.m 5001),R4 (β 5001) (rt (.int .i64)) (rt v) x] w' b o:=fun b o hbo =>
   ⟨.inl (.inl hbo),QC (hok b o hbo) hbel.size,by simp,fun s hs hc=>(hO.1 s hs).2.2 b o (s.cb hc) hbo⟩
  exact t.weak (t.keep (hO.1 t ht).1 (fun g hg=>hbel.block g (hlt t ht g hg)) (Evo.of_blocks hbel.size fun b o hbo=>hbel.block b (hok b o hbo))) hk
 ·rw[hmem]
  exact hO.2.1
end
end Gx

/- Opening an argument that holds trees. -/
namespace Gx
open Go Go.RowKit Gd Go.WideShapes Go.ChangeShapes
set_option linter.unusedVariables false
set_option linter.unusedSimpArgs false
section
variable {P:Program}
theorem Jw4{τ:Type}{r:RT τ}{t e:TypeId}{g:τ→Prop}(ht:P.underlying t=some (.slice e))(hsz:P.cellsOf e=r.size)(hpos:0<r.size){n:Nat}
  (he:∀m,m<n→∀{H:Type} (enc:TypeId×Value→H) (w:World) (cs:List Value) (x:DataW H×List MemPlace),DataW.trod enc P w 0 (fun _=>true) true m e cs=some x→∃y,r.rep (lt w) w y cs∧g y)
  {H:Type} (enc:TypeId×Value→H) (w:World) (cs:List Value) (x:DataW H×List MemPlace) (h:DataW.trod enc P w 0 (fun _=>true) true n t cs=some x):∃y,(rSl r).rep (lt w) w y cs∧Q3g g y:=by
 rcases DataW.trod_slice ht h with⟨rfl,_⟩ | ⟨a,len,cap,elems,rest,m,hm,rfl,_,_,hlc,hcm,hel,hall,_⟩
 ·exact⟨[],⟨_,rfl,none,0,0,rfl,rfl,QU _,fun h0=>absurd h0 (by omega)⟩,by simp[Q3g]⟩
 ·
  have h1:∀i,i<len→∃y cs,r.rep (lt w) w y cs∧g y∧w.cells? 0 (a.add (i*P.cellsOf e)) (P.cellsOf e)=some cs:=by
   grind [List.getElem?_eq_getElem,Option.bind_eq_some_iff,enc]
  have h2:∀k,k≤len→∃ys:List τ,ys.length=k∧∀i y,ys[i]?=some y→∃cs,r.rep (lt w) w y cs∧g y∧w.cells? 0 (a.add (i*P.cellsOf e)) (P.cellsOf e)=some cs:=by
   intro k
   induction k with
   | zero=>simp_all
   | succ k ih =>
    intro hk
    obtain⟨ys,hl,hys⟩:=ih (by omega)
    obtain⟨y,cs,hy,hg,hcs⟩:=h1 k (by omega)
    refine⟨ys++[y],by simp[hl],fun i z hz=>?_⟩
    grind
  obtain⟨ys,hl,hys⟩:=h2 len (QU _)
  refine⟨ys,⟨_,rfl,some a,len,cap,rfl,hl,hlc,fun h0=>?_⟩,⟨by omega,fun y hy=>?_⟩⟩
  ·have hsp:a.spot=none:=by
    obtain⟨y,cs,_,_,hcs⟩:=h1 0 h0
    obtain⟨_,hlen,hcell⟩:=World.cells?_some hcs
    have g0:=hcell 0 (by omega)
    grind [List.getElem?_eq_getElem,Addr.add,World.cell?_spot]
   obtain⟨b,o,sp⟩:=a
   simp only at hsp
   subst hsp
   refine⟨b,o,rfl,fun i y hi=>?_⟩
   obtain⟨cs,hy,_,hcs⟩:=hys i y hi
   obtain⟨_,hlen,hcell⟩:=World.cells?_some hcs
   refine⟨cs,hy,fun j u hu=>?_⟩
   have hj:j<P.cellsOf e:=by rw[←hlen]; exact(List.getElem?_eq_some_iff.1 hu).1
   have:=hcell j hj
   rw[hu,add_plain,add_plain,hsz]at this
   refine⟨?_,this⟩
   show b<w.heap.size
   grind [World.cell?,Nat.lt_or_ge,Array.getElem?_eq_none]
  grind [List.getElem?_of_mem]
theorem Q92{t s t0 t1 t2:TypeId}{a b c:Ty}{ff:Array Field}{f0 f1 f2 f3:Field}(ht:P.underlying t=some (.struct ff))(hff:ff=#[f0,f1,f2,f3])(hc:P.cellsOf t=4)(h0:Tl P t0 a)(h1:Tl P t1 b)(h2:Tl P t2 c)
  (hs:P.underlying s=some (.slice t)) (hcs:P.cellsOf s=1) (ha:a.size=1) (hb:b.size=1) (hd:c.size=1) (q0:f0.type=t0∧f0.offset=0) (q1:f1.type=t1∧f1.offset=1) (q2:f2.type=t2∧f2.offset=2) (q3:f3.type=s∧f3.offset=3) :
  Tl P t (.rose (.pr a (.pr b c))):=by
 have hsize:(rt (.rose (.pr a (.pr b c)))).size=4:=by rw[Jj]; grind [Ty.size]
 have key:∀(n:Nat) {H:Type} (enc:TypeId×Value→H) (w:World) (cs:List Value) (x:DataW H×List MemPlace),DataW.trod enc P w 0 (fun _=>true) true n t cs=some x→∃y,(rt (.rose (.pr a (.pr b c)))).rep (lt w) w y cs∧gd (.rose (.pr a (.pr b c))) y:=by
  intro n
  induction n using Nat.strongRecOn with
  | _ n ih =>
   intro H enc w cs x h
   obtain⟨xs,m,hm,_,hl,hlen,hf⟩:=DataW.trod_struct ht h
   subst hff
   obtain⟨y0,e0,g0⟩:=Qlf.fld h0 hlen hf 0 0 rfl q0.1 q0.2
   obtain⟨y1,e1,g1⟩:=Qlf.fld h1 hlen hf 1 1 rfl q1.1 q1.2
   obtain⟨y2,e2,g2⟩:=Qlf.fld h2 hlen hf 2 2 rfl q2.1 q2.2
   have h3:=hf 3 f3 rfl
   have hlen':xs.length=4:=hlen
   rw[List.getElem?_eq_getElem (by omega),q3.1,q3.2,hcs]at h3
   obtain⟨ys,e3,g3⟩:=Jw4 (r:=rt (.rose (.pr a (.pr b c)))) hs (by rw[hc,hsize]) (by rw[hsize]; omega) (fun k hk=>ih k (by omega)) enc w _ _ h3
   rw[hc]at hl
   match cs,hl with
   | [v0,v1,v2,v3],_ =>
    rw[Jj,ha]at e0
    rw[Jj,hb]at e1
    rw[Jj,hd]at e2
    refine⟨.mk (y0,y1,y2) ys,?_,?_⟩
    ·exact Q3h (c1:=[v0,v1,v2]) (c2:=[v3]) ⟨[v0],[v1,v2],rfl,e0,[v1],[v2],rfl,e1,e2⟩ e3
    ·exact Jkn ⟨g0,g1,g2⟩ g3
 exact⟨by rw[hc,hsize],fun hv=>⟨fun _=>by obtain⟨c,rfl,_⟩:=okWide_struct ht hv; exact⟨_,rfl⟩,fun h=>nomatch h⟩,fun enc w n cs x h=>key n enc w cs x h⟩
end
end Gx

/- What library functions make of rows: slices.SortFunc, Sort, Compact, DeleteFunc. -/
namespace Gx
open Go Go.RowKit Gd
set_option linter.unusedVariables false
set_option linter.unusedSimpArgs false
def kOk(z:Int):Bool:=decide (-2305843009213693952≤z)&&decide (z≤2305843009213693952)
section
variable {α:Type} (key:α→Int)
abbrev Kd:Type:={x:α // kOk (key x)=true}
def cfK(x y:Kd key):Int:=key x.1 - key y.1
def ltK(x y:Kd key):Bool:=decide (cfK key x y<0)
def Qd7(xs:List α):List (Kd key):=xs.filterMap fun x=>if h:kOk (key x)=true then some ⟨x,h⟩else none
theorem Qn9:∀{xs:List α},xs.all (fun x=>kOk (key x))=true→(Qd7 key xs).map (·.1)=xs
 | [],_=>rfl
 | x::xs,h=>by
  simp only[JP,QQ]at h
  have:=Qn9 h.2
  simp_all [Qd7,JA,dif_pos,QR]
def Q93:List α→Bool
 | x::y::l=>decide (key x≤key y)&&Q93 (y::l)
 | _=>true
theorem Q0n:∀{l:List α},Q93 key l=true→l.Pairwise fun x y=>key x≤key y
 | [],_=>.nil
 | [x],_=>List.pairwise_singleton _ _
 | x::y::l,h=>by
  simp only[Q93,QQ,decide_eq_true_eq]at h
  have ih:=Q0n h.2
  refine List.pairwise_cons.2 ⟨fun z hz=>?_,ih⟩
  rcases QX.1 hz with rfl | hz
  ·exact h.1
  grind [Int.le_trans,List.pairwise_cons]
theorem Jw5:Sort.SWO (ltK key) where
 irrefl x:=by simp[ltK,cfK]
 trans x y z h1 h2:=by
  have h1:=of_decide_eq_true h1
  have h2:=of_decide_eq_true h2
  exact decide_eq_true (by grind [cfK])
 ntrans x y z h1 h2:=by
  have h1:=of_decide_eq_false h1
  have h2:=of_decide_eq_false h2
  exact decide_eq_false (by grind [cfK])
variable [Inhabited (Kd key)]
def Qtt(xs:List (Kd key)):List (Kd key):=(Sort.pdq (ltK key) xs.toArray 0 xs.length (Lib.bitLen xs.length) true true).toList
def Qi9(xs:List α):Option (List α) :=
 bif xs.all (fun x=>kOk (key x))&&decide (xs.length<4611686018427387904)then(bif Nat.ble xs.length 12&&Q93 key xs then some xs else some ((Qtt key (Qd7 key xs)).map (·.1)))else none
theorem Qx3(xs:List (Kd key)):(Qtt key xs).Perm xs∧(Qtt key xs).Pairwise fun x y=>key x.1≤key y.1:=by
 have h:=Sort.pdq_sorts (ltK key) (Jw5 key) xs.toArray 0 xs.toArray.size (Lib.bitLen xs.length) true true (QO _) (QU _) (.inl rfl)
 obtain⟨⟨h1,_,h2⟩,h3⟩:=h
 have hsz:xs.toArray.size=xs.length:=by simp
 rw[hsz]at h1 h2 h3
 constructor
 ·have e1:∀a:Array (Kd key),a.size=xs.length→(a.extract 0 xs.length).toList=a.toList:=fun a ha=>by
   rw[←ha]; simp
  rw[e1 _ h1,e1 _ hsz]at h2
  exact h2
 ·refine ZY.2 fun i j hi hj hij=>?_
  have hl:(Qtt key xs).length=xs.length:=by grind [Qtt,Array.length_toList]
  have:=h3 i j (QO _) hij (by omega)
  have this:=of_decide_eq_false this
  grind [cfK,Qtt,Sort.pdq,ltK,Lib.bitLen]
theorem Qtu{xs ys:List α}(h:Qi9 key xs=some ys):ys.Perm xs∧ys.Pairwise fun x y=>key x≤key y:=by
 unfold Qi9 at h
 cases h1:(xs.all (fun x=>kOk (key x))&&decide (xs.length<4611686018427387904))with
 | false=>rw[h1]at h; cases h
 | true =>
  rw[h1]at h
  simp only[QQ]at h1
  cases h2:(Nat.ble xs.length 12&&Q93 key xs)with
  | true =>
   rw[h2]at h
   obtain rfl:=Option.some.inj h
   simp only[QQ]at h2
   exact⟨.refl _,Q0n key h2.2⟩
  | false =>
   rw[h2]at h
   obtain rfl:=Option.some.inj h
   have hs:=Qx3 key (Qd7 key xs)
   grind [Qn9]
theorem Q0o{β:Type}[Inhabited β]{lt:β→β→Bool}{d:Array β}(h:∀j,lt d[j+1]! d[j]! = false∨d.size≤j+1)(a:Nat):∀j,j<d.size→Sort.insInner lt a j d=d
 | 0,_=>rfl
 | j+1,hj=>by
  grind [Sort.insInner]
theorem Ql7{β:Type}[Inhabited β]{lt:β→β→Bool}{d:Array β}(h:∀j,lt d[j+1]! d[j]! = false∨d.size≤j+1)(a b:Nat)(hb:b≤d.size):∀(k i:Nat),b - i≤k→Sort.insOuter lt a b i d=d
 | 0,i,hk=>by rw[Sort.insOuter,if_neg (by omega)]
 | k+1,i,hk=>by
  rw[Sort.insOuter]
  split
  ·rw[Q0o h a i (by omega)]
   exact Ql7 h a b hb k (i+1) (by omega)
  ·rfl
theorem Jku{xs:List (Kd key)}(h12:xs.length≤12)(ha:xs.Pairwise fun x y=>key x.1≤key y.1):Qtt key xs=xs:=by
 unfold Qtt
 rw[Sort.pdq,if_pos (by omega)]
 unfold Sort.insertionSort
 rw[Ql7 (fun j=>?_) 0 xs.length (by simp) xs.length 1 (by omega)]
 rcases Nat.lt_or_ge (j+1) xs.length with hj | hj
 ·left
  rw[getElem!_pos xs.toArray (j+1) (by simpa using hj),getElem!_pos xs.toArray j (by simp; omega)]
  have:=ZY.1 ha j (j+1) (by omega) hj (by omega)
  refine decide_eq_false ?_
  grind [cfK]
 grind
end
instance kdFst {β:Type} [Inhabited β]:Inhabited (Kd fun x:Int×β=>x.1):=⟨⟨(0,default),rfl⟩⟩
def Jrn(xs:List Int):Option (List Int):=bif decide (xs.length<4611686018427387904)then some (Qcz xs)else none
def Q45(xs:List Int):Option (List Int):=bif decide (xs.length≤9223372036854775807)then some (Lib.compact xs)else none
def Jkv(p:Int→Bool)(xs:List Int):Option (List Int):=bif decide (xs.length≤9223372036854775807)then some (xs.filter fun x=>!p x)else none
end Gx

/- Rows that library functions sort or shorten, by the kit's contracts: slices.SortFunc, Sort, Compact, DeleteFunc. -/
namespace Gx
open Go Go.RowKit Gd
set_option linter.unusedVariables false
set_option linter.unusedSimpArgs false
def Qbc:Ty→Bool
 | .int _=>true
 | .bool=>true
 | .pr a b=>Qbc a&&Qbc b
 | .st a=>Qbc a
 | _=>false
def Bq:(t:Ty)→t.De→List Value
 | .int k,x=>[.int k x]
 | .bool,x=>[.bool x]
 | .pr a b,x=>Bq a x.1++Bq b x.2
 | .st a,x=>Bq a x
 | _,_=>[]
theorem Qfs:∀{t:Ty} {x:t.De},Qbc t=true→(Bq t x).length=t.size
 | .int _,x,_=>rfl
 | .bool,x,_=>rfl
 | .pr a b,x,h=>by
  simp only[Qbc,QQ]at h
  simp[Bq,Ty.size,Qfs h.1,Qfs h.2]
 | .st a,x,h=>Qfs (t:=a) h
theorem Ql8:∀{t:Ty} {x:t.De},∀v∈Bq t x,v.oneCell'=true
 | .int _,x,v,h=>by simp[Bq]at h; subst h; rfl
 | .bool,x,v,h=>by simp[Bq]at h; subst h; rfl
 | .pr a b,x,v,h=>by
  rcases QZ.1 (show v∈Bq a x.1++Bq b x.2 from h)with h | h
  ·exact Ql8 v h
  ·exact Ql8 v h
 | .st a,x,v,h=>Ql8 (t:=a) v h
 | .str,x,v,h=>by cases h
 | .sl _,x,v,h=>by cases h
 | .arr _ _,x,v,h=>by cases h
 | .unit,x,v,h=>by cases h
 | .ref,x,v,h=>by cases h
 | .rose _,x,v,h=>by cases h
theorem Ox{ok:Ok}{w:World}:∀{t:Ty} {x:t.De} {cs:List Value},Qbc t=true→((rt t).rep ok w x cs↔cs=Bq t x)
 | .int _,x,cs,_=>Iff.rfl
 | .bool,x,cs,_=>Iff.rfl
 | .pr a b,x,cs,h=>by
  simp only[Qbc,QQ]at h
  constructor
  ·rintro⟨c1,c2,e,h1,h2⟩
   rw[e,(Ox h.1).1 h1,(Ox h.2).1 h2]; rfl
  ·rintro rfl
   exact⟨_,_,rfl,(Ox h.1).2 rfl,(Ox h.2).2 rfl⟩
 | .st a,x,cs,h=>Ox (t:=a) h
theorem Qh0{u:Ty}(hfl:Qbc u=true){ok:Ok}{w:World}:∀{xs:List u.De} {cs:List Value},Wd (rt u) ok w xs cs↔cs=xs.flatMap (Bq u)
 | [],cs=>by simp[Wd]
 | x::xs,cs=>by
  constructor
  ·rintro⟨c1,c2,e,h1,h2⟩
   rw[e,(Ox hfl).1 h1,(Qh0 hfl).1 h2]; rfl
  ·rintro rfl
   exact⟨_,_,rfl,(Ox hfl).2 rfl,(Qh0 hfl).2 rfl⟩
theorem Qtv{u:Ty}(hfl:Qbc u=true):∀xs:List u.De,(xs.flatMap (Bq u)).length=xs.length*u.size
 | []=>by simp
 | x::xs=>by simp[JM,Qfs hfl,Qtv hfl xs,Nat.add_mul,XC]
theorem Jcr{u:Ty}(hfl:Qbc u=true){v:Value}{e:TypeId}{ys:List u.De}{w:World}{ok:Ok}(hl:Wl v=ys.length)(h:w.ownsRowS 0 e u.size v ys.length (ys.flatMap (Bq u))):(ml v e (rt u) ys).p ok w:=by
 refine⟨hl,_,?_,(Qh0 hfl).2 rfl⟩
 rw[hl,Jj]; exact h
theorem Jgq{u:Ty}(hfl:Qbc u=true){v0 v:Value}{e:TypeId}{xs:List u.De}{ok:Ok}{w:World}(h:(ml v0 e (rt u) xs).p ok w)(hz:zal v v0) :
  (xs=[]∧v0=.slice none 0 0∧∃p,v=.slice p 0 0) ∨
  (∃g cap cur fz,v=v0∧v0=.slice (some ⟨g,0,none⟩) xs.length cap∧w.heap[g]?=some (.cells cur e fz)∧Qzh fz cur.size∧xs.length≤cap∧cap≤maxLen∧cap*u.size≤cur.size∧cur.toList.take (xs.length*u.size)=xs.flatMap (Bq u)):=by
 obtain⟨hl,cs,hown,hr⟩:=h
 have hcs:=(Qh0 hfl).1 hr
 rw[Jj]at hown
 have hnil:v0=.slice none 0 0→xs=[]:=fun h0=>by
  subst h0
  exact List.length_eq_zero_iff.1 (by rw[←hl]; rfl)
 rcases hown.2 with⟨hv,h0⟩ | ⟨g,cap,cur,fz,hv,_,hg,hfz,hc1,hc2,hc3,ht⟩
 ·left
  refine⟨hnil hv,hv,?_⟩
  rcases hz with rfl | ⟨_,A,rfl⟩
  ·grind
  ·exact⟨A,rfl⟩
 ·right
  rcases hz with rfl | ⟨hn,A,rfl⟩
  ·rw[hl]at hv hc1 ht
   grind
  grind
theorem Jgr{w:World}{g:Nat}{cur:Array Value}{e:TypeId}{fz:Nat×Nat}(hg:w.heap[g]?=some (.cells cur e fz))(hfz:Qzh fz cur.size){F:List Value}(hF:cur.toList.take F.length=F)(hle:F.length≤cur.size):Sort.Holds id w g 0 F.toArray:=by
 intro j hj
 have hj':j<F.length:=by simpa using hj
 have hjc:j<cur.size:=by omega
 have h1:F[j]?=cur[j]?:=by
  grind
 have h2:F.toArray[j]! = cur[j]:=by
  rw[getElem!_pos F.toArray j hj]
  rw[List.getElem?_eq_getElem hj',JR hjc]at h1
  grind
 rw[h2,QW]
 refine⟨by grind [World.cell?],?_⟩
 rcases hfz with rfl | rfl
 ·simp[World.frozen?,hg]
 grind [World.frozen?,Bool.and_eq_false_iff,decide_eq_false_iff_not]
theorem Q94{w:World}{g n:Nat}{cur:Array Value}{e:TypeId}{fz:Nat×Nat}(hg:w.heap[g]?=some (.cells cur e fz)){F:List Value}(hle:F.length≤cur.size)(os:Array Obj) :
  ∃cur',(Sort.grow (Sort.putRow id (Sort.ahead w n) g 0 F.toArray) os).heap[g]?=some (.cells cur' e fz)∧cur'.size=cur.size∧cur'.toList.take F.length=F:=by
 have hlt:=Vg hg
 refine⟨Sort.putCells id 0 F.toArray cur,?_,by simp[Sort.putCells],?_⟩
 ·rw[Sort.heap_grow_old _ _ (by rw[Sort.size_putRow]; exact hlt)]
  unfold Sort.putRow Sort.mapBlock
  show(Array.modify w.heap g _)[g]?=_
  rw[ZN,if_pos rfl,hg]; rfl
 ·refine JL fun j=>?_
  rcases Nat.lt_or_ge j F.length with hj | hj
  ·rw[List.getElem?_take_of_lt hj]
   have hjc:j<cur.size:=by omega
   simp only[Sort.putCells,ZO,Array.getElem?_mapIdx,JR hjc,XA]
   rw[if_pos ⟨QO _,by simpa using hj⟩,List.getElem?_eq_getElem hj]
   grind
  grind
theorem Q95{w:World}{g n:Nat}{F:Array Value}(os:Array Obj){k:Nat}(hk:k<w.heap.size)(hne:k≠g):(Sort.grow (Sort.putRow id (Sort.ahead w n) g 0 F) os).heap[k]?=w.heap[k]?:=by
 rw[Sort.heap_grow_old _ _ (by rw[Sort.size_putRow]; exact hk)]
 unfold Sort.putRow Sort.mapBlock
 show(Array.modify w.heap g _)[k]?=_
 rw[ZN,if_neg (Ne.symm hne)]
theorem Jgs{w:World}{g n:Nat}{F:Array Value}{L:List Nat}(os:Array Obj)(hg:g∈L):Zt L w.heap.size w (Sort.grow (Sort.putRow id (Sort.ahead w n) g 0 F) os) :=
 ⟨rfl,rfl,rfl,by rw[Sort.size_grow,Sort.size_putRow]; simp_all,fun k hk hn=>Q95 os hk fun h=>hn (h▸hg)⟩
section
variable {P:Program} {gl:List (Nat×Σ t:Ty,t.De)}
theorem Jgt{c:Con}{e:TypeId}{u:Ty}(hfl:Qbc u=true)(fx:c.Γ.De→List u.De)(fy:Qaz c.Δ→List u.De){ev:List En}{vx:List Value}(hro:c.ro=[])
  (hm:∀x,enc c.Γ x=⟨⟨0,[],.s 5000⟩::ev,[(5000,.row e u (fx x))]⟩) (hm':∀y,Qh7 c.Δ y=⟨[],[(5000,.row e u (fy y))]⟩) (hle:c.Γ.env.length=vx.length+1)
  (hev:∀(β:Nat→Nat) (ρ:Nat→Value) (ok:Ok) (w:World) (vs:List Value),vs.length=vx.length+1→(∀e∈ev,∃cs,vs[e.t]?=some (e.av.val cs)∧cr β ρ ok w false e.av cs)→∃v,vs=v::vx)
  (hnone:∀x y,fx x=[]→c.fn x=some y→fy y=[])
  (hcn:∀p w,Calls P c.f ⟨.slice p 0 0::vx⟩ w fun e w'=>e=.returned (.tuple #[])∧w'=w)
  (hcs:∀x y,c.fn x=some y→∀g cap w,Sort.Holds id w g 0 ((fx x).flatMap (Bq u)).toArray→g<w.heap.size→(fx x).length≤cap→Calls P c.f ⟨.slice (some ⟨g,0,none⟩) (fx x).length cap::vx⟩ w fun e w' =>
   e=.returned (.tuple #[])∧(fy y).length=(fx x).length∧∃n os,w'=Sort.grow (Sort.putRow id (Sort.ahead w n) g 0 ((fy y).flatMap (Bq u)).toArray) os):Qa3 P gl c:=by
 intro ok w L β ρ x y vs hok hG hlen hL hargs hy
 rw[hm x]at hL hargs
 have hO:Qle [ml (ρ 5000) e (rt u) (fx x)] L ok w:=hL
 have h0:=hO.1 _ (.head _)
 obtain⟨v,rfl⟩:=hev β ρ ok w vs (by rw[hlen,hle]) fun e he=>hargs e (.tail _ he)
 obtain⟨cs,q1,q2⟩:=hargs _ (.head _)
 obtain⟨⟨v1,rfl,hz⟩,_⟩:(∃v,cs=[v]∧zal v (ρ 5000))∧∃A n c,ρ 5000=.slice A n c:=q2
 obtain rfl:v=v1:=Option.some.inj (show some v=some v1 from q1)
 have hmem:∀ρ':Nat→Value,Qk β ρ' ((Qh7 c.Δ y).mem++roM c x)=[ml (ρ' 5000) e (rt u) (fy y)]:=fun ρ'=>by
  have:roM c x=[]:=by unfold roM; rw[hro,hm x]; rfl
  rw[this,hm' y]; rfl
 have hres:∃cs,(Value.tuple #[])=(Qa0 (Qh7 c.Δ y).env).val cs∧∀β' ρ' ok' w',cr β' ρ' ok' w' false (Qa0 (Qh7 c.Δ y).env) cs:=by
  rw[hm' y]
  exact⟨[.tuple #[]],rfl,fun _ _ _ _=>⟨[],rfl,rfl⟩⟩
 obtain⟨cs,r1,r2⟩:=hres
 rcases Jgq hfl h0.1 hz with⟨hx,hv0,p,rfl⟩ | ⟨g,cap,cur,fz,rfl,hv0,hg,hfz,k1,k2,k3,k4⟩
 ·refine(hcn p w).mono ?_
  rintro e1 w' ⟨rfl,rfl⟩
  have hyy:=hnone x y hx hy
  refine⟨_,rfl,⟨β,ρ,fun i hi=>⟨rfl,rfl⟩,⟨cs,r1,r2 _ _ _ _⟩,?_,?_⟩,Zt.refl _ _ _⟩
  ·rw[hmem]
   intro t ht
   rcases XZ.1 ht with rfl
   refine⟨Jcr hfl (by rw[hv0,hyy]; rfl) (by rw[hv0,hyy]; exact World.ownsRowS_nil _ _ _ _),fun g hg=>?_⟩
   rw[show(ml (ρ 5000) e (rt u) (fy y)).blks g=((ρ 5000).ownBlock=some g)from rfl,hv0]at hg
   cases hg
  ·rw[hmem]; grind
 ·have hgL:g∈L:=h0.2.1 g (by show(ρ 5000).ownBlock=some g; rw[hv0]; rfl)
  have hfx:=Qtv hfl (fx x)
  have hle2:(fx x).length*u.size≤cur.size:=QY (QB _ k1) k3
  have hcall:=hcs x y hy g cap w (Jgr hg hfz (by rw[hfx]; exact k4) (by rw[hfx]; exact hle2)) (Vg hg) k1
  rw[←hv0]at hcall
  refine hcall.mono ?_
  rintro e1 w' ⟨rfl,hll,n,os,rfl⟩
  have hfy:=Qtv hfl (fy y)
  obtain⟨cur',c1,c2,c3⟩:=Q94 (n:=n) hg (F:=(fy y).flatMap (Bq u)) (by rw[hfy,hll]; exact hle2) os
  refine⟨_,rfl,⟨β,ρ,fun i hi=>⟨rfl,rfl⟩,⟨cs,r1,r2 _ _ _ _⟩,?_,?_⟩,Jgs os hgL⟩
  ·rw[hmem]
   intro t ht
   rcases XZ.1 ht with rfl
   refine⟨Jcr hfl (by rw[hv0]; exact hll.symm) ?_,fun g' hg'=>.inr ?_⟩
   ·exact⟨hfy,.inr ⟨g,cap,cur',fz,by rw[hv0,hll],QO _,c1,by rw[c2]; exact hfz,by omega,k2,by rw[c2]; exact k3,by rw[←hfy]; exact c3⟩⟩
   ·rw[show(ml (ρ 5000) e (rt u) (fy y)).blks g'=((ρ 5000).ownBlock=some g')from rfl,hv0]at hg'
    rw[show(Value.slice (some ⟨g,0,none⟩) (fx x).length cap).ownBlock=some g from rfl]at hg'
    grind
  ·rw[hmem]; grind
end
theorem Qpn{α:Type}{enc:α→List Value}{k:Nat}(hk:∀x,(enc x).length=k):∀(l:List α) (i c:Nat),c<k→(l.flatMap enc)[i*k+c]?=(l[i]?).bind fun x=>(enc x)[c]?
 | [],i,c,_=>by simp
 | x::l,0,c,h=>by
  rw[JM,JJ (by rw[hk]; omega)]; simp
 | x::l,i+1,c,h=>by
  have e:(i+1)*k+c=k+(i*k+c):=by rw[Nat.add_mul]; omega
  rw[JM,JK (by rw[hk,e]; omega),hk,e,JI,Qpn hk l i c h]; simp
theorem Qpo{α:Type}{enc:α→List Value}{k:Nat}(hk:∀x,(enc x).length=k):∀l:List α,(l.flatMap enc).length=l.length*k
 | []=>by simp
 | x::l=>by simp[JM,hk,Qpo hk l,Nat.add_mul,XC]
theorem Qtw{α:Type}[Inhabited α]{enc:α→List Value}{k:Nat}(hk:∀x,(enc x).length=k)(l:List α):Sort.flatK enc k l.toArray=(l.flatMap enc).toArray:=by
 have hlen:=Qpo hk l
 refine Sort.ext_get! (by simp[hlen]) fun t ht=>?_
 have ht':t<l.length*k:=by simpa using ht
 have k0:0<k:=by
  grind
 have e2:=Qpn hk l (t / k) (t % k) (Nat.mod_lt _ k0)
 have hi:t / k<l.length:=Nat.div_lt_of_lt_mul (by rwa[XH])
 have hc:t % k<(enc l[t / k]).length:=by rw[hk]; exact Nat.mod_lt _ k0
 rw[Nat.div_add_mod',List.getElem?_eq_getElem hi,QJ,List.getElem?_eq_getElem hc,List.getElem?_eq_getElem (by rw[hlen]; exact ht')]at e2
 rw[Sort.get_flatK enc k l.toArray t (by simpa using ht')]
 grind
theorem Q96{α:Type}[Inhabited α](enc:α→Value)(w:World)(g off:Nat)(l:List α):Sort.putRow enc w g off l.toArray=Sort.putRow id w g off (l.map enc).toArray:=by
 unfold Sort.putRow
 congr 1
 funext c
 unfold Sort.putCells
 grind
theorem Jgu{α:Type}[Inhabited α]{enc:α→Value}{w:World}{g off:Nat}{l:List α}(h:Sort.Holds id w g off (l.map enc).toArray):Sort.Holds enc w g off l.toArray:=by
 intro j hj
 have hj':j<l.length:=by simpa using hj
 have:=h j (by simpa using hj')
 rw[getElem!_pos (l.map enc).toArray _ (by simpa using hj')]at this
 rw[getElem!_pos l.toArray _ hj]
 grind
section
variable {P:Program} {ρ:Shelf.Ren}
open Go.Proofs in
theorem Q46{u:Ty}(hfl:Qbc u=true)(key:u.De→Int)[Inhabited (Kd key)](L:SlLaysF0.n6 P ρ)(aE:∀w,(isAgg (ρ.t 24)).run P w=.ok true w)(zE:∀w,(Go.sizeOf (ρ.t 24)).run P w=.ok u.size w){g:Nat}
  (eg:∀args w,(callFunc g args).run P w=.ok (.enter g args) w)
  (hclo:∀(x y:u.De) (W:World),Calls P g #[.agg (Bq u x).toArray,.agg (Bq u y).toArray] W fun e w'=>e=.returned (.int .i64 (IntKind.wrap .i64 (key x - key y)))∧∃q os',w'=Sort.grow (W.drewN q) os')
  {xs ys:List u.De} (hs:Qi9 key xs=some ys) (blk cap:Nat) (w:World) (hH:Sort.Holds id w blk 0 (xs.flatMap (Bq u)).toArray) (hblk:blk<w.heap.size) :
  Calls P (ρ.f 6) #[.slice (some ⟨blk,0,none⟩) xs.length cap,.func (.func g) #[] #[]] w fun e w'=>e=.returned (.tuple #[])∧ys.length=xs.length∧∃n os,w'=Sort.grow (Sort.putRow id (Sort.ahead w n) blk 0 (ys.flatMap (Bq u)).toArray) os:=by
 unfold Qi9 at hs
 cases h1:(xs.all (fun x=>kOk (key x))&&decide (xs.length<4611686018427387904))with
 | false=>rw[h1]at hs; cases hs
 | true =>
  rw[h1]at hs
  simp only[QQ,decide_eq_true_eq]at h1
  have hv:=Qn9 key h1.1
  have hln:(Qd7 key xs).length=xs.length:=by rw[←congrArg List.length hv]; simp
  have hys:ys=(Qtt key (Qd7 key xs)).map (·.1):=by
   cases h2:(Nat.ble xs.length 12&&Q93 key xs)with
   | true =>
    rw[h2]at hs
    obtain rfl:=Option.some.inj hs
    simp only[QQ]at h2
    have ha:=Q0n key h2.2
    have h12:=QV h2.1
    rw[Jku key (by omega),hv]
    rw[←hv]at ha
    exact(JO (R:=fun x y=>key x≤key y) (f:=fun x:Kd key=>x.1)).1 ha
   | false =>
    rw[h2]at hs
    exact(Option.some.inj hs).symm
  let enc:Kd key→List Value:=fun x=>Bq u x.1
  have hk:∀x,(enc x).length=u.size:=fun x=>Qfs hfl
  have hfm:∀l:List (Kd key),(l.map (·.1)).flatMap (Bq u)=l.flatMap enc:=fun l=>by rw[List.flatMap_map]
  have hw:∀x y:Kd key,IntKind.wrap .i64 (key x.1 - key y.1)=cfK key x y:=fun x y=>by
   have hx:=x.2
   have hy:=y.2
   simp only[kOk,QQ,decide_eq_true_eq]at hx hy
   exact Q5 (by omega) (by omega)
  have hcon:=AnyQ.slices_SortFunc_eq L u.size aE zE enc hk (fun x v hv=>Ql8 v hv) (cfK key) (Jw5 key) g #[] blk 0 cap (Qd7 key xs).toArray w eg
   (fun m os dk _ x y=>by
    have:=hclo x.1 y.1 (sortWorldK enc u.size w blk 0 m dk os)
    rw[hw]at this
    exact this)
   (by unfold Sort.HoldsK; rw[Qtw hk,←hfm,hv]; exact hH) hblk (by simp[hln]; exact h1.2)
  have hsz:(Qd7 key xs).toArray.size=xs.length:=by simp[hln]
  rw[hsz]at hcon
  refine hcon.mono ?_
  rintro e w' ⟨rfl,n,os,rfl⟩
  have hp:=Qx3 key (Qd7 key xs)
  refine⟨rfl,by rw[hys,XV,hp.1.length_eq,hln],n,os,?_⟩
  unfold sortWorldK Sort.putRowK
  have e:Sort.pdq (ltK key) (Qd7 key xs).toArray 0 xs.length (Lib.bitLen xs.length) true true=(Qtt key (Qd7 key xs)).toArray:=by
   unfold Qtt; rw[hln]
  show Sort.grow (Sort.putRow id (Sort.ahead w n) blk 0 (Sort.flatK enc u.size (Sort.pdq (ltK key) (Qd7 key xs).toArray 0 xs.length (Lib.bitLen xs.length) true true))) os=_
  rw[e,Qtw hk,←hfm,hys]
end
section
variable {P:Program} {ρ:Shelf.Ren}
theorem Jgv(l:List Int):(l.flatMap (Bq (.int .i64)))=l.map (Value.int .i64):=by
 induction l with
 | nil=>rfl
 | cons x l ih=>rw[JM,ih]; rfl
open Go.Proofs in
theorem Qv2(L:SlLaysH.n10 P ρ)(v23:∀w,(zeroValue (ρ.t 23)).run P w=.ok (.int .i64 0) w){g:Nat}{p:Int→Bool}(eg:∀args w,(callFunc g args).run P w=.ok (.enter g args) w)
  (hp:∀(x:Int) (W:World),Calls P g #[.int .i64 x] W fun e w'=>e=.returned (.bool (p x))∧∃q,w'=W.drewN q) {xs:List Int} (hl:xs.length≤9223372036854775807) (blk cap:Nat) (w:World) (hH:Sort.Holds id w blk 0 (xs.flatMap (Bq (.int .i64))).toArray) (hblk:blk<w.heap.size) (hcap:xs.length≤cap) :
  Calls P (ρ.f 10) #[.slice (some ⟨blk,0,none⟩) xs.length cap,.func (.func g) #[] #[]] w fun e w'=>e=.returned (.slice (some ⟨blk,0,none⟩) (xs.filter fun x=>!p x).length cap)∧(xs.filter fun x=>!p x).length≤xs.length ∧
   ∃n os zs,zs.length+(xs.filter fun x=>!p x).length*1≤xs.length*1∧w'=Sort.grow (Sort.putRow id (Sort.ahead w n) blk 0 ((xs.filter fun x=>!p x).flatMap (Bq (.int .i64))++zs).toArray) os:=by
 rw[Jgv]at hH ⊢
 have hle:=ZP (fun x=>!p x) xs
 have hg:∀(x:Int) (W:World),FnGives P g #[] #[Value.int .i64 x] (.bool (p x)) W:=fun x W=>hp x W
 have h:=AnyE.slices_DeleteFunc L (Value.int .i64) (fun _=>rfl) p g #[] eg 0 v23 blk 0 cap xs.toArray w (fun W x _=>hg x W) (fun n os dk x _=>hg x _) (Jgu hH) (by simpa using hl) (by simpa using hcap)
 have hsz:xs.toArray.size=xs.length:=by simp
 rw[hsz]at h
 refine h.mono ?_
 rintro e w' ⟨rfl,q,rfl⟩
 rw[Q96,QD]
 exact⟨rfl,hle,q,#[],(List.replicate (xs.length - (xs.filter fun x=>!p x).length) (0:Int)).map (Value.int .i64),by rw[XV,ZR]; omega,by rw[Sort.grow_empty]⟩
open Go.Proofs in
theorem Jro(L:SlLaysH.n10 P ρ)(v23:∀w,(zeroValue (ρ.t 23)).run P w=.ok (.int .i64 0) w){g:Nat}{p:Int→Bool}(eg:∀args w,(callFunc g args).run P w=.ok (.enter g args) w)
  (hp:∀(x:Int) (W:World),Calls P g #[.int .i64 x] W fun e w'=>e=.returned (.bool (p x))∧∃q,w'=W.drewN q) {xs ys:List Int} (hs:Jkv p xs=some ys) (blk cap:Nat) (w:World) (hH:Sort.Holds id w blk 0 (xs.flatMap (Bq (.int .i64))).toArray) (hblk:blk<w.heap.size) (hcap:xs.length≤cap) :
  Calls P (ρ.f 10) #[.slice (some ⟨blk,0,none⟩) xs.length cap,.func (.func g) #[] #[]] w fun e w'=>e=.returned (.slice (some ⟨blk,0,none⟩) ys.length cap)∧ys.length≤xs.length ∧
   ∃n os zs,zs.length+ys.length*1≤xs.length*1∧w'=Sort.grow (Sort.putRow id (Sort.ahead w n) blk 0 (ys.flatMap (Bq (.int .i64))++zs).toArray) os:=by
 obtain⟨h1,h2⟩:=bvT hs
 have hy:=(Option.some.inj h2).symm
 rw[hy]
 exact Qv2 L v23 eg hp (of_decide_eq_true h1) blk cap w hH hblk hcap
open Go.Proofs in
theorem Job(L:SlLaysH.n10 P ρ)(a:Option Addr)(w:World){fv:Value}:Calls P (ρ.f 10) #[.slice a 0 0,fv] w fun e w'=>e=.returned (.slice a 0 0)∧w'=w:=by
 have mixed:=L.mixed; have t0:=L.t0; have a0:=L.a0; have z0:=L.z0; have v0:=L.v0; have t3:=L.t3; have a3:=L.a3; have z3:=L.z3; have v3:=L.v3; have t4:=L.t4; have a4:=L.a4; have z4:=L.z4; have v4:=L.v4; have t22:=L.t22; have a22:=L.a22; have z22:=L.z22; have v22:=L.v22; have a23:=L.a23; have z23:=L.z23; have t25:=L.t25; have a25:=L.a25; have z25:=L.z25; have v25:=L.v25
 have e6:∀args w,(callFunc (ρ.f 6) args).run P w=.ok (.enter (ρ.f 6) args) w:=L.f6.enters rfl
 obtain⟨_,_,FG⟩:=L.f10
 go_enter FG,SlBodyH.n10_ntmps ρ
 go_wp2_with (go_at_fn (ρ.f 6); refine(AnyE.slices_IndexFunc_empty { L with } a 0 fv _).mono ?_; rintro e w' ⟨rfl,rfl⟩)
 go_ret
 exact⟨rfl,rfl⟩
end
theorem Jgw{α:Type}{key:α→Int}[Inhabited (Kd key)]{xs ys:List α}(h:xs=[])(hs:Qi9 key xs=some ys):ys=[]:=by
 subst h; exact List.Perm.eq_nil (Qtu key hs).1
theorem Jpq{g:Nat}(β:Nat→Nat)(ρ:Nat→Value)(ok:Ok)(w:World)(vs:List Value)(h:vs.length=[Value.func (.func g) #[] #[]].length+1)(hev:∀e∈[(⟨1,[],.f g .nil⟩:En)],∃cs,vs[e.t]?=some (e.av.val cs)∧cr β ρ ok w false e.av cs):∃v,vs=v::[Value.func (.func g) #[] #[]]:=by
 obtain⟨cs,h1,ws,h2,h3⟩:=hev _ (.head _)
 have h3:ws=[]:=h3
 subst h3 h2
 obtain⟨a,b,rfl⟩:∃a b,vs=[a,b]:=by
  match vs,h with
  | [a,b],_=>grind
 have h1:b=Value.func (.func g) #[] #[]:=Option.some.inj h1
 grind
end Gx
