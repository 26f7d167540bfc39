/- slices.Clone. -/
import Derived.Test.YtgnpojenbefoiaaGreatXRl
namespace Gx
open Go Go.RowKit Gd
set_option linter.unusedVariables false
set_option linter.unusedSimpArgs false
section
variable {P:Program} {Y:TX}
theorem Qxe {t el:TypeId} {A:Option Addr} {m c:Nat} {w:World} (hu:(underlying t).run P w=.ok (.slice el) w):(Op.equal t (.slice A m c) (.slice none 0 0)).run P w=.ok A.isNone w:=by
 show (Op.equalIn (9999+1) t _ _).run P w=_
 rw [Op.equalIn]
 cases A<;>simp [Sem.run_bind,hu]
abbrev Qgt (u:Ty):Shp:=⟨[(0,.d (.sl u))],[]⟩
abbrev Qgu (e:TypeId) (u:Ty):Shp:=⟨[(0,.s 0)],[(0,.row e u)]⟩
def Fr (f:FuncId) (u:Ty) (Δ:Shp) (fc:List u.De→Option Δ.De):Con:=⟨f,Qgt u,Δ,fc,[]⟩
def Xg {α:Type} (bytes:Nat) (xs:List α):Option (List α):=(app bytes [] xs).bind fun zs=>some zs
def Qxf (Y:TX) (fn:Func) (c:Con):Ex→XS→Option c.Δ.De:=fun e S=>match e with
 | .r=>fin Y fn c.Δ S
 | _=>none
def slT (T:Tab) (t:TypeId):Bool:=match Qf T t with
 | some te=>Zk (Yb te.d)
 | none=>false
def S2c (S1:XS) (v:AV) (b:Bool):XS:=(S1.put 3 [] v).put 4 [] (.d .bool b)
theorem Qqm (hT:Q0 P Y.T) (hmix:P.follows .mixedOrders=true) {fn:Func} {c:Con} (hf:P.funcs[c.f]?=some fn) {v0:c.Γ.De→AV} {fA:c.Γ.De→Option c.Δ.De} (hn:fn.ntmps=8) {R0 A C:Code} {i1:Nat} {o1 o2:Oper} (hb:fn.body=some (.seq R0 (.seq (.seq (.region i1 ⟨[o1,o2]⟩ false) (.cond (.tmp 4) A .skip)) C)))
  (h1d:o1.dst=some 3) (h1o:o1.op=.move (.tmp 0)) (h1g:o1.guard=none) (h2d:o2.dst=some 4) {t yt:TypeId} (h2o:o2.op=.binOp .eql t (.tmp 3) (.const (.slice none 0 0)) yt) (h2g:o2.guard=none) (hsl:slT Y.T t=true)
  (hku:(Nat.ble c.Γ.env.length 8&&(Ea c.Γ.env 0&&Nat.blt c.Γ.env.length 100000))=true) {an0 anA anC:An} (hoff:∀x,okW 8 (XS.put (S00 Y c x) 2 [] .ns) 3=true∧okW 8 (XS.put (S00 Y c x) 2 [] .ns) 4=true)
  (hen:∀x,(⟨0,[],v0 x⟩:En)∈(((S00 Y c x).put 2 [] .ns).flat).env)
  (hv0:∀(x:c.Γ.De) (X:Cx) (β:Nat→Nat) (ρ:Nat→Value) (a:Act) (w:World) (cs:List Value),Rel X β ρ (((S00 Y c x).put 2 [] .ns).flat) a w→cr β ρ (okR X β ρ (((S00 Y c x).put 2 [] .ns).flat).mem w) w false (v0 x) cs →
   ∃A0 m0 c0,(v0 x).val cs=.slice A0 m0 c0∧(A0=none→fA x=c.fn x))
  (h0:∀x,Ua Y [] 8 0 an0 R0 (S00 Y c x) (fun e S=>match e with | .n=>some S | _=>none)=some ((S00 Y c x).put 2 [] .ns))
  (hA:∀x,Ua Y [] 8 0 anA A (S2c ((S00 Y c x).put 2 [] .ns) (v0 x) true) (Qxf Y fn c)=fA x)
  (hC:∀x,Ua Y [] 8 0 anC C (S2c ((S00 Y c x).put 2 [] .ns) (v0 x) false) (Qxf Y fn c)=c.fn x):Qm P Y.gl c:=by
 obtain ⟨te,el,hte,htd⟩:∃te el,Qf Y.T t=some te∧te.d=.slice el:=by
  unfold slT at hsl
  split at hsl
  ·rename_i te hte
   cases hd:Yb te.d with
   | none=>rw [hd] at hsl; cases hsl
   | some el=>exact ⟨te,el,hte,Jy hd⟩
  ·cases hsl
 simp only [Bool.and_eq_true] at hku
 refine Qnn hT hf rfl hb (by rw [hn]; exact hku.1) hku.2.1 hku.2.2 fun xs y X β ρ a w Q hy hG hX hr hp hR H=>?_
 have hX8:X.n=8:=hX.trans hn
 have hK:KsX P Y X []:=⟨(fun _ h=>by cases h),hG⟩
 refine wp_seq (Ur hT hmix hK hX8 hr hp an0 hR (h0 xs) fun e β1 ρ1 S1 a1 w1 k1 k2 k3=>?_)
 cases e with
 | x i=>cases k1
 | r=>cases k1
 | n =>
  simp only [Option.some.injEq] at k1
  subst k1
  obtain ⟨cs,q1,q2⟩:=(k3.en (hen xs)).1 (Qb a1)
  obtain ⟨A0,m0,c0,hv,hnil⟩:=hv0 xs X β1 ρ1 a1 w1 cs k3 q2
  have hev0:a1.eval (.tmp 0)=.slice A0 m0 c0:=by
   rw [←hv]
   have q1':a1.tmps[0]?=some ((v0 xs).val cs):=q1
   show a1.tmps.getD 0 undef=_
   simp [Array.getD_eq_getD_getElem?,q1']
  have hokd3:=(J4 (S:=(S00 Y c xs).put 2 [] .ns) (show okW 8 _ 3=true from (hoff xs).1) hX8 hr)
  have hokd4:=(J4 (S:=(S00 Y c xs).put 2 [] .ns) (show okW 8 _ 4=true from (hoff xs).2) hX8 hr)
  have r1:=k3.put0 hokd3.1 (x:=v0 xs) (c:=cs) q2
  have r2:=r1.put0 hokd4.1 (x:=.d .bool A0.isNone) (c:=[.bool A0.isNone]) rfl
  have hfin:∀b,A0.isNone=b→Rel X β1 ρ1 (S2c ((S00 Y c xs).put 2 [] .ns) (v0 xs) b).flat ((a1.put (some 3) ((v0 xs).val cs)).put (some 4) (.bool b)) w1:=fun b hb=>by
   subst hb
   have e:(S2c ((S00 Y c xs).put 2 [] .ns) (v0 xs) A0.isNone).flat=(((((S00 Y c xs).put 2 [] .ns).flat).put 3 [] (v0 xs)).put 4 [] (.d .bool A0.isNone)):=by
    exact (U8 (S:=((S00 Y c xs).put 2 [] .ns).put 3 [] (v0 xs)) hokd4.2).trans (congrArg (fun z=>St.put z 4 [] (.d .bool A0.isNone)) (U8 hokd3.2))
   rw [e]
   exact r2
  have hev3:(a1.put (some 3) ((v0 xs).val cs)).eval (.tmp 3)=.slice A0 m0 c0:=by
   have hlt:3<a1.tmps.size:=by rw [k3.sz,hX8]; decide
   show (a1.put (some 3) ((v0 xs).val cs)).tmps.getD 3 undef=_
   rw [←hv]
   simp [Act.put,Array.getD_eq_getD_getElem?,hlt]
  have hkeep:∀b,Va ((S00 Y c xs).put 2 [] .ns) (S2c ((S00 Y c xs).put 2 [] .ns) (v0 xs) b) β1 β1 ρ1 ρ1:=fun b=>⟨rfl,rfl,rfl,agP.refl _ _ _⟩
  refine wp_seq (wp_seq ?_)
  refine wp_region_list ?_
  refine Q8 (V2 h1g _) (Jv (w':=w1) (v:=.slice A0 m0 c0) (by
   unfold execOp
   rw [h1o]
   rw [←hev0]; rfl) ?_)
  rw [h1d,←hv]
  refine Q8 (V2 h2g _) (Jv (w':=w1) (v:=.bool A0.isNone) (by
   unfold execOp
   rw [h2o]
   have hu:=Jg hT w1 hte
   rw [htd] at hu
   have he:=Qxe (A:=A0) (m:=m0) (c:=c0) hu
   simp [hev3,show (a1.put (some 3) ((v0 xs).val cs)).eval (.const (.slice none 0 0))=.slice none 0 0 from rfl,eqGuard,binOp,he]) ?_)
  rw [h2d]
  have hev4:∀b:Bool,((a1.put (some 3) ((v0 xs).val cs)).put (some 4) (.bool b)).eval (.tmp 4)=.bool b:=fun b=>by
   have hlt:4<a1.tmps.size:=by rw [k3.sz,hX8]; decide
   show ((a1.put (some 3) ((v0 xs).val cs)).put (some 4) (.bool b)).tmps.getD 4 undef=_
   simp [Act.put,Array.getD_eq_getD_getElem?,hlt]
  cases hA0:A0.isNone with
  | true =>
   have hyy:fA xs=some y:=(hnil (by cases A0 with | none=>rfl | some x=>cases hA0)).trans hy
   refine wp_cond_split (hev4 true) (fun _=>?_) (fun h=>by cases h)
   refine Ur hT hmix hK hX8 hr hp anA (hfin true hA0) ((hA xs).trans hyy) fun e β' ρ' S' a' w' g1 g2 g3=>?_
   cases e with
   | x i=>cases g1
   | n=>cases g1
   | r=>exact H .r β' ρ' S' a' w' g1 ((k2.trans (hkeep true)).trans g2) g3
  | false =>
   refine wp_cond_split (hev4 false) (fun h=>by cases h) (fun _=>?_)
   refine wp_skip ?_
   refine Ur hT hmix hK hX8 hr hp anC (hfin false hA0) ((hC xs).trans hy) fun e β' ρ' S' a' w' g1 g2 g3=>?_
   cases e with
   | x i=>cases g1
   | n=>cases g1
   | r=>exact H .r β' ρ' S' a' w' g1 ((k2.trans (hkeep false)).trans g2) g3
theorem Ah (hT:Q0 P Y.T) (hmix:P.follows .mixedOrders=true) {f:FuncId} {fn:Func} (hf:P.funcs[f]?=some fn) {u:Ty} {Δ:Shp} {fc:List u.De→Option Δ.De} (hn:fn.ntmps=8) {R0 A C:Code} {i1:Nat} {o1 o2:Oper} (hb:fn.body=some (.seq R0 (.seq (.seq (.region i1 ⟨[o1,o2]⟩ false) (.cond (.tmp 4) A .skip)) C)))
  (h1d:o1.dst=some 3) (h1o:o1.op=.move (.tmp 0)) (h1g:o1.guard=none) (h2d:o2.dst=some 4) {t yt:TypeId} (h2o:o2.op=.binOp .eql t (.tmp 3) (.const (.slice none 0 0)) yt) (h2g:o2.guard=none) (hsl:slT Y.T t=true)
  {y0:Δ.De} (happ:fc []=some y0) {an0 anA anC:An} (hoff:okW 8 (XS.put (S00 Y (Fr f u Δ fc) []) 2 [] .ns) 3=true∧okW 8 (XS.put (S00 Y (Fr f u Δ fc) []) 2 [] .ns) 4=true)
  (h0:∀xs:List u.De,Ua Y [] 8 0 an0 R0 (S00 Y (Fr f u Δ fc) xs) (fun e S=>match e with | .n=>some S | _=>none)=some ((S00 Y (Fr f u Δ fc) xs).put 2 [] .ns))
  (hA:∀xs:List u.De,Ua Y [] 8 0 anA A (S2c ((S00 Y (Fr f u Δ fc) xs).put 2 [] .ns) (.d (.sl u) xs) true) (Qxf Y fn (Fr f u Δ fc))=some y0)
  (hC:∀xs:List u.De,Ua Y [] 8 0 anC C (S2c ((S00 Y (Fr f u Δ fc) xs).put 2 [] .ns) (.d (.sl u) xs) false) (Qxf Y fn (Fr f u Δ fc))=fc xs):Qm P Y.gl (Fr f u Δ fc) :=
 Qqm hT hmix (c:=Fr f u Δ fc) hf (v0:=fun xs=>.d (.sl u) xs) (fA:=fun _=>some y0) hn hb h1d h1o h1g h2d h2o h2g hsl rfl (fun _=>hoff) (fun _=>.tail _ (.head _))
  (fun xs X β ρ a w cs _ hc=>by
   obtain ⟨A0,m0,c0,hv,hl,hle,hat⟩:Qbo (rt u) _ w xs ((AV.d (.sl u) xs).val cs):=Uj.1 ⟨cs,hc,rfl⟩
   refine ⟨A0,m0,c0,hv,fun hA0=>?_⟩
   have hxs:xs=[]:=by
    refine List.length_eq_zero_iff.1 ?_
    rcases Nat.eq_zero_or_pos m0 with h | h
    ·rw [hl,h]
    ·obtain ⟨b,o,e,_⟩:=hat h
     rw [e] at hA0; cases hA0
   subst hxs
   exact happ.symm) h0 hA hC
end
end Gx
