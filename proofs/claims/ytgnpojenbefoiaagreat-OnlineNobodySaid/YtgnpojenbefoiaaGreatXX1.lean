/- slices.Clone. -/
import Derived.Test.YtgnpojenbefoiaaGreatXRl
import Derived.Lib.SlKeysI
import Derived.Maps.Views
namespace Gx
open Go Go.RowKit Gd
set_option linter.unusedVariables false
set_option linter.unusedSimpArgs false
section
variable {P:Program} {Y:TX}
theorem Quh {t el:TypeId} {A:Option Addr} {m c:Nat} {w:World} (hu:(underlying t).run P w=.ok (.slice el) w):(Op.equal t (.slice A m c) (.slice none 0 0)).run P w=.ok A.isNone w:=by
 show (Op.equalIn (9999+1) t _ _).run P w=_
 rw [Op.equalIn]
 cases A<;>simp [Sem.run_bind,hu]
abbrev Gm (u:Ty):Shp:=⟨[(0,.d (.sl u))],[]⟩
abbrev I5 (e:TypeId) (u:Ty):Shp:=⟨[(0,.s 0)],[(0,.row e u)]⟩
def Fc (f:FuncId) (u:Ty) (Δ:Shp) (fc:List u.De→Option Δ.De):Con:=⟨f,Gm u,Δ,fc,[]⟩
def Yc {α:Type} (bytes:Nat) (xs:List α):Option (List α):=(app bytes [] xs).bind fun zs=>some zs
def Qui (Y:TX) (fn:Func) (c:Con):Ex→XS→Option c.Δ.De:=fun e S=>match e with
 | .r=>fin Y fn c.Δ S
 | _=>none
def slT (T:Tab) (t:TypeId):Bool:=match Qe T t with
 | some te=>Zk (Yi te.d)
 | none=>false
def S2c (S1:XS) (v:AV) (b:Bool):XS:=(S1.put 3 [] v).put 4 [] (.d .bool b)
theorem Ql6 (hT:Qy P Y.T) (hmix:P.follows .mixedOrders=true) {fn:Func} {c:Con} (hf:P.funcs[c.f]?=some fn) {v0:c.Γ.De→AV} {fA:c.Γ.De→Option c.Δ.De} (hn:fn.ntmps=8) {R0 A C:Code} {i1:Nat} {o1 o2:Oper} (hb:fn.body=some (.seq R0 (.seq (.seq (.region i1 ⟨[o1,o2]⟩ false) (.cond (.tmp 4) A .skip)) C)))
  (h1d:o1.dst=some 3) (h1o:o1.op=.move (.tmp 0)) (h1g:o1.guard=none) (h2d:o2.dst=some 4) {t yt:TypeId} (h2o:o2.op=.binOp .eql t (.tmp 3) (.const (.slice none 0 0)) yt) (h2g:o2.guard=none) (hsl:slT Y.T t=true)
  (hku:(Nat.ble c.Γ.env.length 8&&(H1 c.Γ.env 0&&Nat.blt c.Γ.env.length 100000))=true) {an0 anA anC:An} (hoff:∀x,okW 8 (XS.put (S00 Y c x) 2 [] .ns) 3=true∧okW 8 (XS.put (S00 Y c x) 2 [] .ns) 4=true)
  (hen:∀x,(⟨0,[],v0 x⟩:En)∈(((S00 Y c x).put 2 [] .ns).flat).env)
  (hv0:∀(x:c.Γ.De) (X:Cx) (β:Nat→Nat) (ρ:Nat→Value) (a:Act) (w:World) (cs:List Value),Rel X β ρ (((S00 Y c x).put 2 [] .ns).flat) a w→cr β ρ (okR X β ρ (((S00 Y c x).put 2 [] .ns).flat).mem w) w false (v0 x) cs →
   ∃A0 m0 c0,(v0 x).val cs=.slice A0 m0 c0∧(A0=none→fA x=c.fn x))
  (h0:∀x,Uj Y [] 8 0 an0 R0 (S00 Y c x) (fun e S=>match e with | .n=>some S | _=>none)=some ((S00 Y c x).put 2 [] .ns))
  (hA:∀x,Uj Y [] 8 0 anA A (S2c ((S00 Y c x).put 2 [] .ns) (v0 x) true) (Qui Y fn c)=fA x)
  (hC:∀x,Uj Y [] 8 0 anC C (S2c ((S00 Y c x).put 2 [] .ns) (v0 x) false) (Qui Y fn c)=c.fn x):Qi P Y.gl c:=by
 obtain ⟨te,el,hte,htd⟩:∃te el,Qe Y.T t=some te∧te.d=.slice el:=by
  unfold slT at hsl
  split at hsl
  ·rename_i te hte
   cases hd:Yi te.d with
   | none=>rw [hd] at hsl; cases hsl
   | some el=>exact ⟨te,el,hte,J6 hd⟩
  ·cases hsl
 simp only [Bool.and_eq_true] at hku
 refine Qi5 hT hf rfl hb (by rw [hn]; exact hku.1) hku.2.1 hku.2.2 fun xs y X β ρ a w Q hy hG hX hr hp hR H=>?_
 have hX8:X.n=8:=hX.trans hn
 have hK:KsX P Y X []:=⟨(fun _ h=>by cases h),hG⟩
 refine wp_seq (U2 hT hmix hK hX8 hr hp an0 hR (h0 xs) fun e β1 ρ1 S1 a1 w1 k1 k2 k3=>?_)
 cases e with
 | x i=>cases k1
 | r=>cases k1
 | n =>
  simp only [Option.some.injEq] at k1
  subst k1
  obtain ⟨cs,q1,q2⟩:=(k3.en (hen xs)).1 (Qa a1)
  obtain ⟨A0,m0,c0,hv,hnil⟩:=hv0 xs X β1 ρ1 a1 w1 cs k3 q2
  have hev0:a1.eval (.tmp 0)=.slice A0 m0 c0:=by
   rw [←hv]
   have q1':a1.tmps[0]?=some ((v0 xs).val cs):=q1
   show a1.tmps.getD 0 undef=_
   simp [Array.getD_eq_getD_getElem?,q1']
  have hokd3:=(J7 (S:=(S00 Y c xs).put 2 [] .ns) (show okW 8 _ 3=true from (hoff xs).1) hX8 hr)
  have hokd4:=(J7 (S:=(S00 Y c xs).put 2 [] .ns) (show okW 8 _ 4=true from (hoff xs).2) hX8 hr)
  have r1:=k3.put0 hokd3.1 (x:=v0 xs) (c:=cs) q2
  have r2:=r1.put0 hokd4.1 (x:=.d .bool A0.isNone) (c:=[.bool A0.isNone]) rfl
  have hfin:∀b,A0.isNone=b→Rel X β1 ρ1 (S2c ((S00 Y c xs).put 2 [] .ns) (v0 xs) b).flat ((a1.put (some 3) ((v0 xs).val cs)).put (some 4) (.bool b)) w1:=fun b hb=>by
   subst hb
   have e:(S2c ((S00 Y c xs).put 2 [] .ns) (v0 xs) A0.isNone).flat=(((((S00 Y c xs).put 2 [] .ns).flat).put 3 [] (v0 xs)).put 4 [] (.d .bool A0.isNone)):=by
    exact (Ze (S:=((S00 Y c xs).put 2 [] .ns).put 3 [] (v0 xs)) hokd4.2).trans (congrArg (fun z=>St.put z 4 [] (.d .bool A0.isNone)) (Ze hokd3.2))
   rw [e]
   exact r2
  have hev3:(a1.put (some 3) ((v0 xs).val cs)).eval (.tmp 3)=.slice A0 m0 c0:=by
   have hlt:3<a1.tmps.size:=by rw [k3.sz,hX8]; decide
   show (a1.put (some 3) ((v0 xs).val cs)).tmps.getD 3 undef=_
   rw [←hv]
   simp [Act.put,Array.getD_eq_getD_getElem?,hlt]
  have hkeep:∀b,Vo ((S00 Y c xs).put 2 [] .ns) (S2c ((S00 Y c xs).put 2 [] .ns) (v0 xs) b) β1 β1 ρ1 ρ1:=fun b=>⟨rfl,rfl,rfl,agP.refl _ _ _⟩
  refine wp_seq (wp_seq ?_)
  refine wp_region_list ?_
  refine Q8 (Ua h1g _) (Jv (w':=w1) (v:=.slice A0 m0 c0) (by
   unfold execOp
   rw [h1o]
   rw [←hev0]; rfl) ?_)
  rw [h1d,←hv]
  refine Q8 (Ua h2g _) (Jv (w':=w1) (v:=.bool A0.isNone) (by
   unfold execOp
   rw [h2o]
   have hu:=Ji hT w1 hte
   rw [htd] at hu
   have he:=Quh (A:=A0) (m:=m0) (c:=c0) hu
   simp [hev3,show (a1.put (some 3) ((v0 xs).val cs)).eval (.const (.slice none 0 0))=.slice none 0 0 from rfl,eqGuard,binOp,he]) ?_)
  rw [h2d]
  have hev4:∀b:Bool,((a1.put (some 3) ((v0 xs).val cs)).put (some 4) (.bool b)).eval (.tmp 4)=.bool b:=fun b=>by
   have hlt:4<a1.tmps.size:=by rw [k3.sz,hX8]; decide
   show ((a1.put (some 3) ((v0 xs).val cs)).put (some 4) (.bool b)).tmps.getD 4 undef=_
   simp [Act.put,Array.getD_eq_getD_getElem?,hlt]
  cases hA0:A0.isNone with
  | true =>
   have hyy:fA xs=some y:=(hnil (by cases A0 with | none=>rfl | some x=>cases hA0)).trans hy
   refine wp_cond_split (hev4 true) (fun _=>?_) (fun h=>by cases h)
   refine U2 hT hmix hK hX8 hr hp anA (hfin true hA0) ((hA xs).trans hyy) fun e β' ρ' S' a' w' g1 g2 g3=>?_
   cases e with
   | x i=>cases g1
   | n=>cases g1
   | r=>exact H .r β' ρ' S' a' w' g1 ((k2.trans (hkeep true)).trans g2) g3
  | false =>
   refine wp_cond_split (hev4 false) (fun h=>by cases h) (fun _=>?_)
   refine wp_skip ?_
   refine U2 hT hmix hK hX8 hr hp anC (hfin false hA0) ((hC xs).trans hy) fun e β' ρ' S' a' w' g1 g2 g3=>?_
   cases e with
   | x i=>cases g1
   | n=>cases g1
   | r=>exact H .r β' ρ' S' a' w' g1 ((k2.trans (hkeep false)).trans g2) g3
theorem Ub (hT:Qy P Y.T) (hmix:P.follows .mixedOrders=true) {f:FuncId} {fn:Func} (hf:P.funcs[f]?=some fn) {u:Ty} {Δ:Shp} {fc:List u.De→Option Δ.De} (hn:fn.ntmps=8) {R0 A C:Code} {i1:Nat} {o1 o2:Oper} (hb:fn.body=some (.seq R0 (.seq (.seq (.region i1 ⟨[o1,o2]⟩ false) (.cond (.tmp 4) A .skip)) C)))
  (h1d:o1.dst=some 3) (h1o:o1.op=.move (.tmp 0)) (h1g:o1.guard=none) (h2d:o2.dst=some 4) {t yt:TypeId} (h2o:o2.op=.binOp .eql t (.tmp 3) (.const (.slice none 0 0)) yt) (h2g:o2.guard=none) (hsl:slT Y.T t=true)
  {y0:Δ.De} (happ:fc []=some y0) {an0 anA anC:An} (hoff:okW 8 (XS.put (S00 Y (Fc f u Δ fc) []) 2 [] .ns) 3=true∧okW 8 (XS.put (S00 Y (Fc f u Δ fc) []) 2 [] .ns) 4=true)
  (h0:∀xs:List u.De,Uj Y [] 8 0 an0 R0 (S00 Y (Fc f u Δ fc) xs) (fun e S=>match e with | .n=>some S | _=>none)=some ((S00 Y (Fc f u Δ fc) xs).put 2 [] .ns))
  (hA:∀xs:List u.De,Uj Y [] 8 0 anA A (S2c ((S00 Y (Fc f u Δ fc) xs).put 2 [] .ns) (.d (.sl u) xs) true) (Qui Y fn (Fc f u Δ fc))=some y0)
  (hC:∀xs:List u.De,Uj Y [] 8 0 anC C (S2c ((S00 Y (Fc f u Δ fc) xs).put 2 [] .ns) (.d (.sl u) xs) false) (Qui Y fn (Fc f u Δ fc))=fc xs):Qi P Y.gl (Fc f u Δ fc) :=
 Ql6 hT hmix (c:=Fc f u Δ fc) hf (v0:=fun xs=>.d (.sl u) xs) (fA:=fun _=>some y0) hn hb h1d h1o h1g h2d h2o h2g hsl rfl (fun _=>hoff) (fun _=>.tail _ (.head _))
  (fun xs X β ρ a w cs _ hc=>by
   obtain ⟨A0,m0,c0,hv,hl,hle,hat⟩:Sh (rt u) _ w xs ((AV.d (.sl u) xs).val cs):=Uh.1 ⟨cs,hc,rfl⟩
   refine ⟨A0,m0,c0,hv,fun hA0=>?_⟩
   have hxs:xs=[]:=by
    refine List.length_eq_zero_iff.1 ?_
    rcases Nat.eq_zero_or_pos m0 with h | h
    ·rw [hl,h]
    ·obtain ⟨b,o,e,_⟩:=hat h
     rw [e] at hA0; cases hA0
   subst hxs
   exact happ.symm) h0 hA hC
end
end Gx

/- The keys of a map of one's own, in order: slices.Sorted(maps.Keys(m)) at keys that are ints. -/
namespace Gx
open Go Go.RowKit Gd
set_option linter.unusedVariables false
set_option linter.unusedSimpArgs false
def Rf (z:Int):Bool:=decide (-9223372036854775808≤z)&&decide (z≤9223372036854775807)
def Qgu (x:Int):List Int→List Int
 | []=>[x]
 | y::r=>bif decide (x≤y) then x::y::r else y::Qgu x r
def Rg:List Int→List Int
 | []=>[]
 | x::r=>Qgu x (Rg r)
def T9 {β:Type} (xs:List (Int×β)):Option (List Int):=bif Nat.ble (xs.length*8) 140737488355328&&xs.all (fun q=>Rf q.1) then some (Rg (xs.map Prod.fst)) else none
theorem L0 (x:Int):∀l:List Int,(Qgu x l).Perm (x::l)
 | []=>.refl _
 | y::r=>by
  unfold Qgu
  cases h:decide (x≤y)
  ·exact ((L0 x r).cons y).trans (.swap ..)
  ·exact .refl _
theorem Mz:∀l:List Int,(Rg l).Perm l
 | []=>.refl _
 | x::r=>(L0 x _).trans ((Mz r).cons x)
theorem M2 (x:Int):∀l:List Int,l.Pairwise (·≤·)→(Qgu x l).Pairwise (·≤·)
 | [],_=>by simp [Qgu]
 | y::r,h=>by
  unfold Qgu
  cases hd:decide (x≤y)
  ·have hd:=of_decide_eq_false hd
   refine List.pairwise_cons.2 ⟨fun z hz=>?_,M2 x r (List.pairwise_cons.1 h).2⟩
   rcases List.mem_cons.1 ((L0 x r).mem_iff.1 hz) with rfl | hz
   ·omega
   ·exact (List.pairwise_cons.1 h).1 z hz
  ·have hd:=of_decide_eq_true hd
   refine List.pairwise_cons.2 ⟨fun z hz=>?_,h⟩
   rcases List.mem_cons.1 hz with rfl | hz
   ·exact hd
   ·exact Int.le_trans hd ((List.pairwise_cons.1 h).1 z hz)
theorem Dg:∀l:List Int,(Rg l).Pairwise (·≤·)
 | []=>.nil
 | x::r=>M2 x _ (Dg r)
theorem Nf {ss l:List Int} (h:ss.Perm l):ss.mergeSort (fun x y=>decide (x≤y))=Rg l:=by
 refine List.Perm.eq_of_pairwise (le:=fun a b:Int=>a≤b) (fun a b _ _ h1 h2=>Int.le_antisymm h1 h2) ?_ (Dg l) (((List.mergeSort_perm _ _).trans h).trans (Mz l).symm)
 exact (List.pairwise_mergeSort (fun a b c h1 h2=>by simp only [decide_eq_true_eq] at *; omega) (fun a b=>by simp only [Bool.or_eq_true,decide_eq_true_eq]; omega) ss).imp fun h=>of_decide_eq_true h
section
variable {P:Program} {gl:List (Nat×Σ t:Ty,t.De)}
abbrev inK (g tid:Nat) (v:Ty):Shp:=⟨[(0,.f g (.cons (.p 5000 []) .nil))],[(5000,.var tid (.m 5001)),(5001,.map (.int .i64) v)]⟩
abbrev Quj:Shp:=⟨[(0,.d (.sl (.int .i64)))],[]⟩
def Ay (_:Value):Option (DataW Unit×List MemPlace):=some (.lit (.bool true),[])
theorem wfZ {z:Int} (h:Rf z=true):(Lit.int .i64 z).wf=true:=by
 unfold Rf at h
 simp only [Bool.and_eq_true,decide_eq_true_eq] at h
 have h1:IntKind.i64.min = -9223372036854775808:=rfl
 have h2:IntKind.i64.max=9223372036854775807:=rfl
 simp [Lit.wf,h1,h2,h.1,h.2]
def Qqk:Value→Lit
 | .int k z=>.int k z
 | _=>.bool false
theorem Qaa {kt:TypeId} (hkt:P.underlying kt=some (.int .i64)) {v:Ty} {ok:Ok} {w:World}:∀{xs:List (Int×v.De)} {l:List MapEntry},Kn (rt (.int .i64)) (rt v) ok w xs l→xs.all (fun q=>Rf q.1)=true →
  l.map MapEntry.key=xs.map (fun q=>Value.int .i64 q.1)∧∀e∈l,Go.WideElems.rd (H:=Unit) P kt Ay e=some (Qqk e.key,.lit (.bool true))
 | [],l,h,_=>by cases (show l=[] from h); exact ⟨rfl,fun _ h=>by cases h⟩
 | x::xs,l,h,hk=>by
  obtain ⟨e,es',rfl,q1,_,q3⟩:=h
  simp only [List.all_cons,Bool.and_eq_true] at hk
  have hx:e.key=.int .i64 x.1:=Qh5.1 q1
  obtain ⟨i1,i2⟩:=Qaa hkt q3 hk.2
  refine ⟨by simp [hx,i1],fun e' he'=>?_⟩
  rcases List.mem_cons.1 he' with rfl | he'
  ·unfold Go.WideElems.rd
   rw [hx,Go.Maps.keyOf_int_mk hkt (wfZ hk.1)]
   rfl
  ·exact i2 e' he'
theorem Qql {kt:TypeId} (hkt:P.underlying kt=some (.int .i64)) {v:Ty} {xs:List (Int×v.De)} {ok:Ok} {w:World} {b:Nat} (h:(Hs b (rt (.int .i64)) (rt v) xs).p ok w) (hlen:xs.length*8≤140737488355328) (hk:xs.all (fun q=>Rf q.1)=true) :
  ∃D0:DataW Unit,w.ownsMap P kt Ay b xs.length D0∧Maps.size D0=xs.length∧(intKeys D0).Perm (xs.map Prod.fst):=by
 obtain ⟨es,clock,h1,h2,h3,h4,h5⟩:=h
 obtain ⟨k1,k2⟩:=Qaa hkt h2 hk
 have hl:es.size=xs.length:=by
  have:=congrArg List.length k1
  simpa using this
 have hperm:=Go.WideShapes.sorted_perm (es.toList.map (Go.WideElems.rg P kt (Ay)))
 have hrg:∀e∈es.toList,Go.WideElems.rg P kt Ay e=(Qqk e.key,.lit (.bool true)):=fun e he=>Go.WideElems.rg_of (k2 e he)
 refine ⟨_,⟨es,clock,h1,⟨?_,⟨h5,h4,?_⟩,fun e he=>⟨_,k2 e he⟩⟩,Nat.le_of_eq hl,rfl⟩,?_,?_⟩
 ·rw [hl]
  have:maxLen=9223372036854775807:=rfl
  omega
 ·rw [show (es.toList.map (fun e=>e.key))=xs.map (fun q=>Value.int .i64 q.1) from k1,show xs.map (fun q=>Value.int .i64 q.1)=(xs.map Prod.fst).map (Value.int .i64) from by simp]
  exact h3.map _ fun a b hab e=>hab (by simpa using e)
 ·show List.length _=_
  rw [hperm.length_eq,List.length_map]; simpa using hl
 ·refine (hperm.map _).trans ?_
  rw [List.map_map,show (es.toList.map ((fun p:Lit×DataW Unit=>intOf p.1)∘Go.WideElems.rg P kt Ay))=es.toList.map (fun e=>intOf (Qqk e.key)) from List.map_congr_left fun e he=>by simp [hrg e he],
   show (es.toList.map (fun e=>intOf (Qqk e.key)))=(es.toList.map MapEntry.key).map (fun u=>intOf (Qqk u)) from by simp,k1]
  rw [List.map_map]
  exact .of_eq (List.map_congr_left fun q _=>rfl)
theorem Qqm {w:World} {ok:Ok} {B:Nat} {kt:TypeId} {u:Value} {l:List Int} (h:w.ownsRow B kt 1 u l.length (l.map (Value.int .i64))) (hok:∀b o,B≤b→b<w.heap.size→ok b o):isV (rSl (E2 .i64)) ok w l u:=by
 refine Uh.2 ?_
 rcases h.2 with ⟨rfl,hz⟩ | ⟨g,cap,cur,rfl,hb,hg,r1,r2,r3,r4⟩
 ·exact ⟨none,0,0,rfl,hz,Nat.le_refl _,fun h0=>absurd h0 (by omega)⟩
 ·refine ⟨_,_,_,rfl,rfl,r1,fun _=>⟨g,0,rfl,fun i x hi=>⟨[.int .i64 x],rfl,fun j v hj=>?_⟩⟩⟩
  match j,hj with
  | 0,hj =>
   simp only [List.getElem?_cons_zero,Option.some.injEq] at hj
   subst hj
   refine ⟨hok _ _ hb (Yl hg),?_⟩
   have hsz:(E2 .i64).size=1:=rfl
   have h1:(cur.toList.take (l.length*1))[i]?=some (Value.int .i64 x):=by rw [r4,List.getElem?_map,hi]; rfl
   have hil:=(List.getElem?_eq_some_iff.1 hi).1
   rw [List.getElem?_take_of_lt (by omega)] at h1
   simp only [hsz,Nat.zero_add,Nat.mul_one,Nat.add_zero]
   simp [World.cell?,hg]
   simpa using h1
theorem Qdx {f g tid:Nat} {kt:TypeId} {v:Ty} (hm:∀x:List (Int×v.De),(enc (inK g tid v) x).mem=[(5000,.var tid (.m 5001)),(5001,.map (.int .i64) v x)]) (hkt:P.underlying kt=some (.int .i64))
  (h:∀(Bm b nn:Nat) (D0:DataW Unit) (w:World),Bm<w.heap.size→w.cell? ⟨Bm,0,none⟩=some (.map (some b))→w.ownsMap P kt Ay b nn D0→Maps.size D0≤maxLen→Maps.size D0*8≤140737488355328 →
   Calls P f #[.func (.func g) #[] #[.pointer (some ⟨Bm,0,none⟩)]] w fun e w'=>∃(u:Value) (ss:List Int),e=.returned u∧ss.Perm (intKeys D0)∧w'.ownsRow w.heap.size kt 1 u ss.length ((ss.mergeSort (fun x y=>decide (x≤y))).map encZ)∧(u=.slice none 0 0↔ss=[])∧Below w.heap.size w w') :
  Qi P gl ⟨f,inK g tid v,Quj,fun xs=>T9 xs,[5000,5001]⟩:=by
 intro ok w L β ρ x y vs hok hG hlen hL hargs hy
 have hy:T9 (β:=v.De) x=some y:=hy
 unfold T9 at hy
 obtain ⟨hb,hy⟩:=bvT hy
 simp only [Bool.and_eq_true] at hb
 have hy:=(Option.some.inj hy).symm
 have hmx:(enc (inK g tid v) x).mem=[(5000,.var tid (.m 5001)),(5001,.map (.int .i64) v x)]:=hm x
 have hO:Ma [Xf β ρ (β 5000) tid (.m 5001),Hs (β 5001) (rt (.int .i64)) (rt v) x] L ok w:=by
  have hL':Ma (Qc β ρ (enc (inK g tid v) x).mem) L ok w:=hL
  rw [hmx] at hL'
  exact hL'
 have p1:=(hO.1 _ (.head _)).1
 have p2:=(hO.1 _ (.tail _ (.head _))).1
 obtain ⟨cs,c1,c2⟩:=p1
 have c2:cs=[.map (some (β 5001))]:=c2
 subst c2
 obtain ⟨D0,o1,o2,o3⟩:=Qql hkt p2 (Nat.le_of_ble_eq_true hb.1) hb.2
 have hvs:vs=[.func (.func g) #[] #[.pointer (some ⟨β 5000,0,none⟩)]]:=by
  obtain ⟨cs,q1,vs',q2,c1,vs2,q3,q4,q5⟩:=hargs ⟨0,[],.f g (.cons (.p 5000 []) .nil)⟩ (.head _)
  have q4:c1=[.pointer (some ⟨β 5000,0,none⟩)]:=q4
  have q5:vs2=[]:=q5
  subst q4; subst q5; subst q3; subst q2
  match vs,hlen with
  | [u],_ =>
   simp only [List.getElem?_cons_zero,Option.some.injEq] at q1
   rw [q1]; rfl
 subst hvs
 have hlen8:=Nat.le_of_ble_eq_true hb.1
 have hmax:maxLen=9223372036854775807:=rfl
 refine (h (β 5000) (β 5001) _ D0 w (Yl c1) (by simp [World.cell?,c1]) o1 (by omega) (by omega)).mono ?_
 rintro e w' ⟨u,ss,rfl,hp,hrow,_,hbel⟩
 have hsort:ss.mergeSort (fun x y=>decide (x≤y))=y:=(Nf (hp.trans o3)).trans hy.symm
 have hln:ss.length=y.length:=by rw [←hsort]; exact (List.mergeSort_perm _ _).length_eq.symm
 rw [hsort,hln] at hrow
 have hmem:Qc β ρ ((enc Quj y).mem++roM (⟨f,inK g tid v,Quj,fun xs=>T9 xs,[5000,5001]⟩:Con) x)=[Xf β ρ (β 5000) tid (.m 5001),Hs (β 5001) (rt (.int .i64)) (rt v) x]:=by
  show Qc β ρ ([]++rdM [5000,5001] (enc (inK g tid v) x).mem)=_
  rw [hmx]; rfl
 have hlt:∀t∈[Xf β ρ (β 5000) tid (.m 5001),Hs (β 5001) (rt (.int .i64)) (rt v) x],∀g,t.blks g→g<w.heap.size:=fun t ht g hg=>t.lt (hO.1 t ht).1 g hg
 refine ⟨u,rfl,⟨β,ρ,fun i hi=>⟨rfl,rfl⟩,⟨[u],rfl,?_⟩,?_,?_⟩,Vq.of _ hbel⟩
 ·rw [hmem]
  refine ⟨u,rfl,Uh.1 (Qqm hrow fun b o h1 h2=>⟨.inr h1,h2,by simp,fun t ht hc=>?_⟩)⟩
  have:=hlt t ht b (t.cb hc)
  omega
 ·rw [hmem]
  intro t ht
  refine ⟨?_,fun g hg=>.inr ((hO.1 t ht).2.1 g hg)⟩
  have hk:∀b o,ok b o→Q5 (okL L ok) w.heap.size (fun _=>0) [] [Xf β ρ (β 5000) tid (.m 5001),Hs (β 5001) (rt (.int .i64)) (rt v) x] w' b o:=fun b o hbo =>
   ⟨.inl (.inl hbo),Nat.lt_of_lt_of_le (hok b o hbo) hbel.size,by simp,fun s hs hc=>(hO.1 s hs).2.2 b o (s.cb hc) hbo⟩
  exact t.weak (t.keep (hO.1 t ht).1 (fun g hg=>hbel.block g (hlt t ht g hg)) (Evo.of_blocks hbel.size fun b o hbo=>hbel.block b (hok b o hbo))) hk
 ·rw [hmem]
  exact hO.2.1
end
end Gx
