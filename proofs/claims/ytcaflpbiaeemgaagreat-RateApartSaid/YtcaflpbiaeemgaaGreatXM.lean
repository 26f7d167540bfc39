/- Steps that make slices. -/
import Derived.Test.YtcaflpbiaeemgaaGreatXJ
set_option linter.unusedVariables false
set_option linter.unusedSimpArgs false
set_option linter.constructorNameAsVariable false
namespace Gx
open Go Go.RowKit Gd
section
variable {P:Program} {Y:TX} {X:Cx} {S:XS} {β β':Nat→Nat} {ρ ρ':Nat→Value} {a a':Act} {w w':World} {n:Nat}
variable {ops:Array Oper} {Q:Exit→Act→World→Prop} {rest:List Oper} {R:Type} {k:XS→Option R} {r:R}
theorem Yg(d:Nat)(β:Nat→Nat)(ρ:Nat→Value)(v:Value):Qp9 d β β ρ (upd ρ d v):=fun i h=>⟨rfl,N2 _ _ h⟩
theorem Xi{M:List (Nat×Ob)}(hX:X.n=n)(hr:X.res=[])(hsz:a.tmps.size=X.n){d:Nat}(hwd:okW n S d=true)(hF:Yo d M=true)(hI:Qp2 d S.fix=true)(hp:Yr S.prot d=false){v:Value}{o:Ob}{T':TL}
  (hS:Sb (fun _=>0) X (Qfp (Qqa X.n a) d (.v v)) ((S.env++S.fix).map (enD β ρ a)) [] (T'::Qq β ρ M) a' w') (hT:Fx T' (Jb β (upd ρ d v) d o)) (hv:∃A m c,v=.slice A m c) :
  Rel X β (upd ρ d v) ⟨⟨d,[],.s d⟩::(Vw (Ux d S.env) d++S.fix),(d,o)::M⟩ a' w':=by
 obtain⟨h1,h2⟩:=Ue hwd hX hr;have ha:=Yg d β ρ v;refine Rel.fin (β':=β) (ρ':=upd ρ d v) (mem':=(d,o)::M) (fun _ _=>trivial) hS hsz h1 (.cons hT (Qfy ha hF)) (fun e he ok w cs hc=>?_) (fun e he=>?_) (x:=.s d) (c:=[v]) rfl ?_
 ·exact Fy ha (T3 hI h2 e he).2.1 hc
 ·obtain⟨q1,_,q3,q4⟩:=T3 hI h2 e he
  exact⟨q1,q3,q4⟩
 ·refine⟨⟨_,rfl,.inl (by rw[Jm])⟩,?_⟩
  rw[Jm]; exact hv
theorem N4(o:Oper):o=⟨o.dst,o.op,o.type,o.pos,o.after,o.guard⟩:=by cases o; rfl
theorem Rel.dropM{S:St}(h:Rel X β ρ S a w){id:Nat}{o:Ob}(hm:Qk S.mem id=some o):Rel X β ρ ⟨S.env,Ya S.mem id⟩ a w:=by
 obtain⟨l1,l2,e1,_,e3⟩:=J8 hm
 have hsub:(Qq β ρ (l1++l2)).Sublist (Qq β ρ S.mem):=by
  rw[e1];grind
 unfold Rel at h ⊢;show Sb _ _ _ _ _ (Qq β ρ (Ya S.mem id)) _ _;rw[e3];exact Sb.remake h (fun t' ht'=>.inl ⟨t',hsub.subset ht',fun _ hg=>hg,fun _ _ hc=>hc,(h.own t' (hsub.subset ht')).1⟩) (h.dOO.sublist hsub)
theorem J56(hT:Jg P Y.T)(hX:X.n=n)(hr:X.res=[])(h:Rel X β ρ S.flat a w){o:Oper}(hw:Region.wanted o (yielded ops a.tmps)=true){d:Nat}(hd:o.dst=some d)(hwd:okW n S d=true)(hb:okB S d=true)
  {t:TypeId} {l c:Operand} (hop:o.op=.makeSlice t l c) {te ee:TE} {e:TypeId} (hte:Qo Y.T t=some te) (htd:te.d=.slice e) (he:Qo Y.T e=some ee) {lv cv:AV} (hl:S.ev [] l=some lv) (hc:S.ev [] c=some cv)
  {k1 k2:IntKind} {nl nc:Int} (hli:G9 lv=some (k1,nl)) (hci:G9 cv=some (k2,nc)) {u:Ty} {za:AV} {z:u.De} (hza:Qfx u ee.z=some za) (hz:asD [] za u=some z) (hsz:Nat.beq ee.size u.size=true)
  (hzl:Nat.beq (Q4 ee.z).length ee.size=true) (hby:Nat.ble 1 ee.bytes=true) {zs:List u.De} (hmk:mkL ee.bytes nl nc z=some zs)
  (hk:k ((S.born d (.row e u zs)).put d [] (.s d))=some r) (H:KOk P ops Q rest X S β ρ k r):wpList P ops Q (o::rest) a w:=by
 obtain⟨f1,f2,f3⟩:=Ch hb;obtain⟨h1,h2⟩:=Ue hwd hX hr;have hg:=T2 h hw;rw[N4 o,hd,hop]at hg ⊢
 refine Joy hT h.toG (r:=rt u) hg h1 hte htd he (by rw[Jo]; simp_all) hzl hby (fun ok w=>Gl (β:=β) (ρ:=ρ) (M:=[]) (by simp[Qk]) hz (Ti hza))
  (by rw[gvE h (Qi a) hl,h.int (Qi a) hl hli]) (by rw[gvE h (Qi a) hc,h.int (Qi a) hc hci]) hmk fun b a' w' hS=>?_
 refine H β (upd ρ d (.slice (some ⟨b,0,none⟩) zs.length nc.toNat)) _ _ _ hk (Kn f3 (Yg d β ρ _) _ _ _) ?_;have:=Xi (o:=.row e u zs) hX hr h.sz hwd f1 f2 f3 hS (by grind [Jb,Jm,Fx.refl]) ⟨_,_,_,rfl⟩;exact this
theorem J57(hT:Jg P Y.T)(hX:X.n=n)(hr:X.res=[])(h:Rel X β ρ S.flat a w){o:Oper}(hw:Region.wanted o (yielded ops a.tmps)=true){d:Nat}(hd:o.dst=some d)(hwd:okW n S d=true)(hb:okB S d=true)
  {t:TypeId} (hop:o.op=.buildSlice t 0 ⟨[]⟩) {te ee:TE} {e:TypeId} (hte:Qo Y.T t=some te) (htd:te.d=.slice e) (he:Qo Y.T e=some ee) {u:Ty} (hsz:Nat.beq ee.size u.size=true)
  (hk:k ((S.born d (.row e u [])).put d [] (.s d))=some r) (H:KOk P ops Q rest X S β ρ k r):wpList P ops Q (o::rest) a w:=by
 obtain⟨f1,f2,f3⟩:=Ch hb;obtain⟨h1,h2⟩:=Ue hwd hX hr;have hg:=T2 h hw;rw[N4 o,hd,hop]at hg ⊢;refine Qw9 hT h.toG (r:=rt u) hg h1 hte htd he fun b a' w' _ hS=>?_;refine H β (upd ρ d (.slice (some ⟨b,0,none⟩) (List.length ([]:List u.De)) 0)) _ _ _ hk (Kn f3 (Yg d β ρ _) _ _ _) ?_;have e1:ee.size=(rt u).size:=by rw[Jo]; simp_all
 rw[e1]at hS;have:=Xi (o:=.row e u []) hX hr h.sz hwd f1 f2 f3 (hS.melt0) (by grind [Jb,Jm,Fx.refl]) ⟨_,_,_,rfl⟩;exact this
theorem Q65(h:Rel X β ρ S.flat a w){u:Ty}:∀{ps:List (Nat×Operand)} {vs:List (Nat×AV)} {xs:List u.De} {j:Nat},Vz S.flat [] ps=some vs→asLs S.flat.mem u vs j=some xs →
  ∃us:List Value,ps.map (fun p=>(p.1,a.eval p.2))=(List.range' j us.length).zip us∧Q1c (rt u) (okR X β ρ S.flat.mem w) w xs us∧us.length=xs.length∧evParts (Qqa X.n a) ps=some (ps.map (fun p=>(p.1,a.eval p.2)))
 | [],vs,xs,j,he,hx=>by
  simp[Vz]at he; subst he;simp[asLs]at hx; subst hx;exact⟨[],rfl,trivial,rfl,rfl⟩
 | (i,x)::ps,vs,xs,j,he,hx=>by
  simp only[Vz]at he;split at he
  ·rename_i v l hv hl
   simp at he; subst he;simp only[asLs]at hx;obtain⟨hb,hx⟩:=bvT hx;simp only[QQ]at hb;have:=Nat.eq_of_beq_eq_true hb.1;subst this;split at hx
   ·rename_i y ys hy hys
    simp at hx; subst hx;obtain⟨us,q1,q2,q3,q4⟩:=Q65 h (u:=u) (ps:=ps) hl hys;have hiv:=h.asD (Qi a) hv hy (bEq hb.2);refine⟨a.eval x::us,?_,⟨hiv,q2⟩,by simp[q3],?_⟩
    ·grind [List.length_cons,List.range'_succ,List.zip_cons_cons]
    ·simp only[evParts,gvE h (Qi a) hv,q4,JQ]
   ·cases hx
  ·cases he
theorem J72(hT:Jg P Y.T)(hX:X.n=n)(hr:X.res=[])(h:Rel X β ρ S.flat a w){o:Oper}(hw:Region.wanted o (yielded ops a.tmps)=true){d:Nat}(hd:o.dst=some d)(hwd:okW n S d=true)
  {t:TypeId} {m:Nat} {ps:List (Nat×Operand)} (hop:o.op=.buildSlice t (m+1) ⟨ps⟩) {te ee:TE} {e:TypeId} (hte:Qo Y.T t=some te) (htd:te.d=.slice e) (he:Qo Y.T e=some ee) {u:Ty} (hsz:Nat.beq ee.size u.size=true)
  {vs:List (Nat×AV)} {xs:List u.De} (hvs:Vz S.flat [] ps=some vs) (hxs:asLs S.flat.mem u vs 0=some xs) (hl:Nat.beq xs.length (m+1)=true) (hsm:Nat.ble ((m+1)*ee.size) 16777216=true) (hpos:Nat.ble 1 ee.size=true)
  (hzl:Nat.beq (Q4 ee.z).length ee.size=true) (hk:k (S.put d [] (.d (.sl u) xs))=some r) (H:KOk P ops Q rest X S β ρ k r):wpList P ops Q (o::rest) a w:=by
 obtain⟨h1,h2⟩:=Ue hwd hX hr;have hg:=T2 h hw;obtain⟨us,q1,q2,q3,q4⟩:=Q65 h hvs hxs;have hes:=Nat.eq_of_beq_eq_true hsz;have hxl:=Nat.eq_of_beq_eq_true hl
 have hcl:∀v∈us,(Q4 v).length=ee.size:=by
  have key:∀{xs:List u.De} {us:List Value},Q1c (rt u) (okR X β ρ S.flat.mem w) w xs us→∀v∈us,(Q4 v).length=ee.size:=by
   intro xs
   induction xs with
   | nil=>intro us hu v hv; cases us with
    | nil=>cases hv
    | cons _ _=>cases hu
   | cons x xs ih =>
    intro us hu v hv;cases us with
    | nil=>cases hv
    | cons y us =>
     rcases QX.1 hv with rfl | hv
     ·rw[(rt u).len (Nw hu.1),Jo,hes]
     ·exact ih hu.2 v hv
  exact key q2
 have hz0:(Kj (Q4 ee.z) ((m+1)*ee.size)).length=(m+1)*ee.size:=by simp[Kj]
 have hfill:=Jbr us 0 (Kj (Q4 ee.z) ((m+1)*ee.size)) hcl (by rw[hz0,QW,q3,hxl]; grind);rw[←q1]at hfill
 have hfill':Qbt (Qi2 ee.size) (Kj (Q4 ee.z) ((m+1)*ee.size)) (ps.map (fun p=>(p.1,a.eval p.2)))=some (us.flatMap Q4):=by
  rw[hfill];grind
 rw[N4 o,hd,hop]at hg ⊢;refine Quz hT h.toG (r:=rt u) hg h1 q4 hte htd he (by rw[Jo]; exact hes) hxl hsm (Nat.ble_eq_true_of_le (by have:=QV hpos; have:=Nat.mul_le_mul (Nat.le_add_left 1 m) this; omega)) hzl hfill' q2 fun A c a' w' hv hS=>?_;refine H β ρ _ _ _ hk (F0 S d [] _) ?_
 have hfin:=Rel.fin (β':=β) (ρ':=ρ) (env:=S.env++S.fix) (env':=Vw S.env d++S.fix) (mem':=S.mem++S.fixM) (fun _ _=>trivial) hS h.sz h1 (Ha.refl _) (fun e he ok w cs hc=>hc) (fun e he=>by
  grind [Tu,List.mem_append_left,Qjh,List.mem_append_right]) (x:=.d (.sl u) xs) (c:=[.slice A xs.length c]) rfl ⟨_,rfl,Xv.1 hv⟩
 exact hfin
theorem slV(h:Rel X β ρ S.flat a w){x:Operand}{xv:AV}{u:Ty}{ys:List u.De}(hx:S.ev [] x=some xv)(hy:asD S.flat.mem xv (.sl u)=some ys) :
  ∃A m c,a.eval x=.slice A m c∧isV (rSl (rt u)) (okR X β ρ S.flat.mem w) w ys (.slice A m c):=by
 have hag:(Ty.sl u).agg=xv.isAgg:=by
  cases xv with
  | d t' y'=>obtain⟨rfl,_⟩:=Ty.cast_ok (by simpa only[asD]using hy); rfl
  | ag l=>simp[asD]at hy
  | _=>rfl
 have hiv:=h.asD (Qi a) hx hy hag;grind [Qrm,rt]
theorem slR(h:Rel X β ρ S.flat a w){x:Operand}{xv:AV}{u:Ty}{ys:List u.De}(hx:S.ev [] x=some xv)(hy:asR S.flat.mem xv u=some ys) :
  ∃A m c,a.eval x=.slice A m c∧Ja7 (rt u) (okR X β ρ S.flat.mem w) w ys A m c:=by
 unfold asR at hy;split at hy
 ·grind [slV,Jkr]
 ·split at hy
  ·rename_i id hno
   split at hy
   ·rename_i e t zs ho
    obtain⟨he,hz⟩:=Ty.cast_ok hy;injection he with he
    subst he;obtain⟨c1,h1,⟨v,rfl,hz0⟩,A,m,c,hρ⟩:=h.ev (Qi a) hx;have hp:=(h.ob ho).1;have hp':(ml (ρ id) e (rt t) zs).p (okR X β ρ S.flat.mem w) w:=hp;rw[hρ]at hp';have hz':zs=ys:=hz.symm;subst hz';rcases hz0 with hz0 | ⟨h00,A0,hz0⟩
    ·exact⟨A,m,c,by rw[h1,←hρ,←hz0]; rfl,Js5 hp'⟩
    ·refine⟨A0,0,0,by rw[h1,←hz0]; rfl,?_⟩
     have hl:Gj (ρ id)=zs.length:=hp.1;rw[h00]at hl;have:zs=[]:=List.length_eq_zero_iff.1 hl.symm;subst this;exact⟨[],by simp,rfl,QY _,fun _=>rfl,by simp,fun h=>absurd h (by omega),by simp⟩
   ·cases hy
  ·cases hy
theorem Jt3(hT:Jg P Y.T)(hX:X.n=n)(hr:X.res=[])(h:Rel X β ρ S.flat a w){o:Oper}(hw:Region.wanted o (yielded ops a.tmps)=true){d:Nat}(hd:o.dst=some d)(hwd:okW n S d=true)(hb:okB S d=true)
  {t:TypeId} {s x:Operand} (hop:o.op=.call ⟨.builtin .append,⟨[s,x]⟩,⟨[t,t]⟩⟩) {te ee:TE} {e:TypeId} (hte:Qo Y.T t=some te) (htd:te.d=.slice e) (he:Qo Y.T e=some ee) {u:Ty} (hsz:Nat.beq ee.size u.size=true)
  (hpos:Nat.ble 1 ee.size=true) (hby:Nat.ble 1 ee.bytes=true) (hzl:Nat.beq (Q4 ee.z).length ee.size=true) {xv:AV} (hs:S.ev [] s=some .ns) (hx:S.ev [] x=some xv) {ys zs:List u.De} (hy:asR S.flat.mem xv u=some ys)
  (happ:app ee.bytes [] ys=some zs) (hk:k ((S.born d (.row e u zs)).put d [] (.s d))=some r) (H:KOk P ops Q rest X S β ρ k r):wpList P ops Q (o::rest) a w:=by
 obtain⟨f1,f2,f3⟩:=Ch hb;obtain⟨h1,h2⟩:=Ue hwd hX hr;have hg:=T2 h hw;obtain⟨A2,m2,c2,hxe,hyv⟩:=slR h hx hy;obtain⟨c1,hse,hs2⟩:=h.ev (Qi a) hs;have hs2':c1=_:=hs2;subst hs2';have hse':a.eval s=.slice none 0 0:=hse;have hnil:Sb (fun _=>0) X (Qqa X.n a) (S.flat.env.map (enD β ρ a)) [] (ml (.slice none 0 0) e (rt u) []::Qq β ρ S.flat.mem) a w:=Sb.addNilM h.toG e (rt u)
 have hok:∀b o,okR X β ρ S.flat.mem w b o→Jr X.ok X.w.heap.size (fun _=>0) [] (ml (.slice none 0 0) e (rt u) []::Qq β ρ S.flat.mem) w b o:=by
  rintro b o ⟨o1,o2,o3,o4⟩;refine⟨o1,o2,o3,fun t ht hc=>?_⟩;rcases QX.1 ht with rfl | ht
  ·cases hc
  ·exact o4 t ht hc
 rw[N4 o,hd,hop]at hg ⊢;refine Qpo hT hnil [] (Qq β ρ S.flat.mem) (r:=rt u) hg h1 hte htd he (by rw[Jo]; exact Nat.eq_of_beq_eq_true hsz) hzl hpos hby rfl (by rw[gvE h (Qi a) hs,hse']) (by rw[gvE h (Qi a) hx,hxe]) (hyv.weak hok) happ fun A' c' a' w' hS=>?_;refine H β (upd ρ d (.slice A' zs.length c')) _ _ _ hk (Kn f3 (Yg d β ρ _) _ _ _) ?_;exact Xi (o:=.row e u zs) hX hr h.sz hwd f1 f2 f3 hS (by grind [Jb,Jm,Fx.refl]) ⟨_,_,_,rfl⟩
theorem Ge{l m:List (Nat×Ob)}{id:Nat}{o:Ob}(h:Qk l id=some o):Ya (l++m) id=Ya l id++m:=by
 induction l with
 | nil=>simp[Qk]at h
 | cons q l ih =>
  simp only[Qk]at h;simp only[Ya,QD];grind
theorem Qfz{T:Tab}{G:GL}{D:List DF}{H:HL}{O:List TL}(hT:Jg P T)(h:Sb β X G D H O a w){t:TypeId}{s x:Operand}{d:Nat}{ps:String}{af:Array Edge}{ty:TypeId}{gd:Option (Nat×Bool)}
  (hg:Nu ops G ⟨some d,.call ⟨.builtin .append,⟨[s,x]⟩,⟨[t,t]⟩⟩,ty,ps,af,gd⟩=some true) (hlt:okD X d=true)
  {τ:Type} {r:RT τ} {ys zs:List τ} {A A2:Option Addr} {m2 c2:Nat} {e:TypeId} {te ee:TE} (ht:Qo T t=some te) (htd:te.d=.slice e) (he:Qo T e=some ee) (hs:ee.size=r.size)
  (hz:Nat.beq (Q4 ee.z).length ee.size=true) (hsz:Nat.ble 1 ee.size=true) (hby:Nat.ble 1 ee.bytes=true)
  (hs1:gv G s=some (.v (.slice A 0 0))) (hx1:gv G x=some (.v (.slice A2 m2 c2)))
  (hDy:Ja7 r (Jr X.ok X.w.heap.size β H O w) w ys A2 m2 c2) (happ:app ee.bytes ([]:List τ) ys=some zs)
  (hk1:zs=[]→∀a',Sb β X (Qfp G d (.v (.slice A 0 0))) D H O a' w→wpList P ops Q rest a' w)
  (hk2:∀A' c' a' w',Sb β X (Qfp G d (.v (.slice A' zs.length c'))) D H (ml (.slice A' zs.length c') e r zs::O) a' w'→wpList P ops Q rest a' w') :
  wpList P ops Q (⟨some d,.call ⟨.builtin .append,⟨[s,x]⟩,⟨[t,t]⟩⟩,ty,ps,af,gd⟩::rest) a w:=by
 obtain⟨hbytes,hzs⟩:=Qrn happ;simp only[QE,JW,QW]at hbytes hzs;subst hzs;have h0:=Sb.addNilM h e r
 have hokn:∀b o,Jr X.ok X.w.heap.size β H O w b o→Jr X.ok X.w.heap.size β H (ml (.slice none 0 0) e r []::O) w b o:=by
  rintro b o ⟨o1,o2,o3,o4⟩;refine⟨o1,o2,o3,fun t ht hc=>?_⟩;rcases QX.1 ht with rfl | ht
  ·cases hc
  ·exact o4 t ht hc
 obtain⟨csy,hcy1,hyl,hmc2,hA2,hcy2,hcy3,hcy4⟩:=hDy.weak hokn;have hzl:=Nat.eq_of_beq_eq_true hz;have hsz':0<ee.size:=QV hsz;have hby':0<ee.bytes:=QV hby;have hu:P.underlying t=some (.slice e):=by rw[(J0 hT ht).2,htd]
 obtain⟨i,hi,hz',hsi,hbi⟩:=Ek hT he;have hm2b:zs.length≤140737488355328:=Nat.le_trans (XU _ hby') hbytes;have hm:(Array.mk [s,x]).map a.eval=⟨[.slice A 0 0,.slice A2 m2 c2]⟩:=by simp[h.ev hs1,h.ev hx1,R4]
 have hexec:∀v' w1,(Builtin.append_ ⟨[t,t]⟩ ty ⟨[.slice A 0 0,.slice A2 m2 c2]⟩).run P w=.ok v' w1→(execOp a.eval ⟨some d,.call ⟨.builtin .append,⟨[s,x]⟩,⟨[t,t]⟩⟩,ty,ps,af,gd⟩).run P w=.ok (.value v') w1:=by
  simp_all [execOp,resolve,invoke,builtin]
 rcases Nat.eq_zero_or_pos m2 with h0' | h0'
 ·subst h0'
  have hx:zs=[]:=QF hyl
  have hrun:(Builtin.append_ ⟨[t,t]⟩ ty ⟨[.slice A 0 0,.slice A2 0 c2]⟩).run P w=.ok (.slice A 0 0) w:=by
   cases A<;>cases A2<;>simp[Builtin.append_,run_underlying hu,Go.sizeOf,typeInfo,hi,Builtin.lenOf,Builtin.firstCells,loadCells,loadCellsFrom,storeCells]
  refine J5 (Wm h hg) (Vi (hexec _ _ hrun) ?_);exact hk1 hx _ (h.put hlt (.v _))
 ·obtain⟨b,o,rfl,hc⟩:=hcy3 h0'
  have hnews:∀j u,csy[j]?=some u→w.cell? ((⟨b,o,none⟩:Addr).add j)=some u:=fun j u hu=>by rw[Bl]; exact hc j u hu
  have hone:(Builtin.append_ ⟨[t,t]⟩ ty ⟨[.slice A 0 0,.slice (some ⟨b,o,none⟩) m2 c2]⟩).run P w=(Builtin.append_ ⟨[t,t]⟩ ty ⟨[.slice none 0 0,.slice (some ⟨b,o,none⟩) m2 c2]⟩).run P w:=by
   have hn:=run_append_nil (P:=P) w t ty e i ee.z hu hi hz' (⟨b,o,none⟩) m2 c2 csy (by rw[hsi,hs]; exact hcy1) hnews h0' (by omega) (by rw[hbi,←hyl]; omega);cases A with
   | none=>rfl
   | some ad =>
    have:=run_append_grow (P:=P) w t ty e i ee.z hu hi hz' ad 0 0 [] (by simp) (by simp) ⟨b,o,none⟩ m2 c2 csy (by rw[hsi,hs]; exact hcy1) hnews (by omega) (by omega) (growslice_fits (by omega) (by rw[hbi,QW,←hyl]; exact hbytes));grind
  obtain⟨v',w1,hrun,hown',hgrow,hblk⟩:=Qnx (P:=P) (w:=w) (ty:=ty) hT ht htd he hzl hsz' hby' (World.ownsRowS_nil w 0 e ee.size) (QN _) (k:=m2) (c:=c2) (A:=some ⟨b,o,none⟩) (news:=csy) (by rw[hs]; exact hcy1) hA2 (fun ad had=>by grind) hcy2 (by rw[←hyl,QW]; exact hbytes);refine J5 (Wm h hg) (Vi (hexec _ _ (hone.trans hrun)) ?_)
  have hform:∃A' c',v'=.slice A' (0+m2) c':=by
   rcases hown'.2 with⟨rfl,h0⟩ | ⟨g,cap,cur,fz,rfl,_⟩
   ·grind
   grind
  obtain⟨A',c',rfl⟩:=hform;rw[QW]at hown';rw[QW]at hblk
  have hS:Sb β X G D H (ml (.slice A' m2 c') e r zs::O) a w1:=by
   refine h0.upd (O1:=[]) rfl hgrow.os hgrow.tape hgrow.output hgrow.size (fun b hb hn=>hgrow.block b hb fun e=>hn e.symm) (fun b o hb=>hb) (fun g hg=>?_) fun hevo hok=>?_
   ·rcases hblk with he1 | ⟨he1,_⟩
    ·exact .inl (by have hg:(Value.slice A' m2 c').ownBlock=some g:=hg; rw[he1]at hg; exact hg)
    ·have hg:(Value.slice A' m2 c').ownBlock=some g:=hg
     rw[he1]at hg; grind
   ·refine⟨hyl.symm,csy,by rw[←hs]; exact hown',Hh (Ig ?_ hevo) hok⟩
    grind [Qpn]
  have:=hk2 A' c' (a.put (some d) (.slice A' m2 c')) w1;rw[hyl]at this;rw[QW];exact this (hS.put hlt (.v _))
theorem Qx9{M:List (Nat×Ob)}(hX:X.n=n)(hr:X.res=[])(hsz:a.tmps.size=X.n){d:Nat}(hwd:okW n S d=true)(hF:Yo d M=true)(hI:Qp2 d S.fix=true)(hp:Yr S.prot d=false){A:Option Addr}{e:TypeId}{u:Ty}
  (hS:Sb (fun _=>0) X (Qfp (Qqa X.n a) d (.v (.slice A 0 0))) ((S.env++S.fix).map (enD β ρ a)) [] (Qq β ρ M) a' w') :
  Rel X β (upd ρ d (.slice none 0 0)) ⟨⟨d,[],.s d⟩::(Vw (Ux d S.env) d++S.fix),(d,.row e u [])::M⟩ a' w':=by
 obtain⟨h1,h2⟩:=Ue hwd hX hr;have ha:=Yg d β ρ (.slice none 0 0);refine Rel.fin (β':=β) (ρ':=upd ρ d (.slice none 0 0)) (mem':=(d,.row e u [])::M) (fun _ _=>trivial) (Sb.addNilM hS e (rt u)) hsz h1 (.cons (by grind [Jb,Jm,Fx.refl]) (Qfy ha hF)) (fun e he ok w cs hc=>?_) (fun e he=>?_) (x:=.s d) (c:=[.slice A 0 0]) rfl ?_
 ·exact Fy ha (T3 hI h2 e he).2.1 hc
 ·obtain⟨q1,_,q3,q4⟩:=T3 hI h2 e he
  exact⟨q1,q3,q4⟩
 ·refine⟨⟨_,rfl,.inr ⟨by rw[Jm],A,rfl⟩⟩,?_⟩
  rw[Jm]; grind
theorem Jt4(hT:Jg P Y.T)(hX:X.n=n)(hr:X.res=[])(h:Rel X β ρ S.flat a w){o:Oper}(hw:Region.wanted o (yielded ops a.tmps)=true){d:Nat}(hd:o.dst=some d)(hwd:okW n S d=true){id:Nat}
  (hb:okB ⟨S.env,S.fix,Ya S.mem id,S.fixM,S.prot⟩ d=true)
  {t:TypeId} {s x:Operand} (hop:o.op=.call ⟨.builtin .append,⟨[s,x]⟩,⟨[t,t]⟩⟩) {te ee:TE} {e:TypeId} (hte:Qo Y.T t=some te) (htd:te.d=.slice e) (he:Qo Y.T e=some ee) {u:Ty} (hsz:Nat.beq ee.size u.size=true)
  (hpos:Nat.ble 1 ee.size=true) (hby:Nat.ble 1 ee.bytes=true) (hzl:Nat.beq (Q4 ee.z).length ee.size=true) {xv:AV} (hs:S.ev [] s=some (.s id)) (hx:S.ev [] x=some xv) {xs ys zs:List u.De} (hm:Qk S.mem id=some (.row e u xs)) (hy:asR S.flat.mem xv u=some ys)
  (happ:app ee.bytes xs ys=some zs) (hk:k (({ S with mem:=Ya S.mem id }.born d (.row e u zs)).put d [] (.s d))=some r) (H:KOk P ops Q rest X S β ρ k r):wpList P ops Q (o::rest) a w:=by
 obtain⟨f1,f2,f3⟩:=Ch hb;obtain⟨h1,h2⟩:=Ue hwd hX hr;have hg:=T2 h hw;obtain⟨A2,m2,c2,hxe,hyv⟩:=slR h hx hy;obtain⟨c1,hse,⟨v0,hs2,hz0⟩,A,m,c,hρ⟩:=h.ev (Qi a) hs;subst hs2;have hm':Qk S.flat.mem id=some (.row e u xs):=Jd hm;have e4':Ya S.mem id++S.fixM=Ya S.flat.mem id:=(Ge hm).symm;rcases hz0 with hz0 | ⟨h00,A0,hz0⟩
 case inr =>
  have hse':a.eval s=.slice A0 0 0:=by rw[hse,←hz0]; rfl
  have hxs:xs=[]:=by
   have:=(h.ob hm').1.1;rw[h00]at this;exact List.length_eq_zero_iff.1 this.symm
  subst hxs;have hR:=h.dropM hm'
  have hok':∀b o,okR X β ρ S.flat.mem w b o→Jr X.ok X.w.heap.size (fun _=>0) [] (Qq β ρ (Ya S.flat.mem id)) w b o:=by
   rintro b o ⟨o1,o2,o3,o4⟩;refine⟨o1,o2,o3,fun t ht hc=>?_⟩;obtain⟨l1,l2,e1,_,e3⟩:=J8 hm';grind
  rw[N4 o,hd,hop]at hg ⊢;refine Qfz (a:=a) hT hR.toG (r:=rt u) hg h1 hte htd he (by rw[Jo]; exact Nat.eq_of_beq_eq_true hsz) hzl hpos hby (by rw[gvE h (Qi a) hs,hse']) (by rw[gvE h (Qi a) hx,hxe]) (hyv.weak hok') happ (fun hz a' hS=>?_) fun A' c' a' w' hS=>?_
  ·subst hz
   rw[←e4']at hS;exact H β (upd ρ d (.slice none 0 0)) _ _ _ hk ⟨rfl,rfl,rfl,Fz f3 (Yg d β ρ _)⟩ (Qx9 (S:={ S with mem:=Ya S.mem id }) hX hr h.sz hwd f1 f2 f3 hS)
  ·rw[←e4']at hS
   refine H β (upd ρ d (.slice A' zs.length c')) _ _ _ hk ⟨rfl,rfl,rfl,Fz f3 (Yg d β ρ _)⟩ ?_;exact Xi (S:={ S with mem:=Ya S.mem id }) (o:=.row e u zs) hX hr h.sz hwd f1 f2 f3 hS (by grind [Jb,Jm,Fx.refl]) ⟨_,_,_,rfl⟩
 have hse':a.eval s=.slice A m c:=by rw[hse,←hρ,←hz0]; rfl
 obtain⟨l1,l2,e1,_,e3⟩:=J8 hm';have hO:Qq β ρ S.flat.mem=Qq β ρ l1++ml (.slice A m c) e (rt u) xs::Qq β ρ l2:=by rw[e1]; simp[Qq,Jb,hρ]
 rw[N4 o,hd,hop]at hg ⊢;refine Qpo hT h.toG (Qq β ρ l1) (Qq β ρ l2) (r:=rt u) hg h1 hte htd he (by rw[Jo]; exact Nat.eq_of_beq_eq_true hsz) hzl hpos hby hO (by rw[gvE h (Qi a) hs,hse']) (by rw[gvE h (Qi a) hx,hxe]) hyv happ fun A' c' a' w' hS=>?_;refine H β (upd ρ d (.slice A' zs.length c')) _ _ _ hk ⟨rfl,rfl,rfl,Fz f3 (Yg d β ρ _)⟩ ?_;have e4:Ya S.mem id++S.fixM=l1++l2:=by rw[←Ge hm]; exact e3
 have hS':=hS.perm (O':=ml (.slice A' zs.length c') e (rt u) zs::Qq β ρ (Ya S.mem id++S.fixM)) (by rw[e4]; simp[Qq,QC,List.perm_middle]);exact Xi (S:={ S with mem:=Ya S.mem id }) (o:=.row e u zs) hX hr h.sz hwd f1 f2 f3 hS' (by grind [Jb,Jm,Fx.refl]) ⟨_,_,_,rfl⟩
theorem Jpr(hT:Jg P Y.T)(hX:X.n=n)(hr:X.res=[])(h:Rel X β ρ S.flat a w){o:Oper}(hw:Region.wanted o (yielded ops a.tmps)=true){d:Nat}(hd:o.dst=some d)(hwd:okW n S d=true){id:Nat}
  (hb:okB ⟨S.env,S.fix,Ya S.mem id,S.fixM,S.prot⟩ d=true)
  {t:TypeId} {s x:Operand} (hop:o.op=.call ⟨.builtin .append,⟨[s,x]⟩,⟨[t,t]⟩⟩) {te ee:TE} {e:TypeId} (hte:Qo Y.T t=some te) (htd:te.d=.slice e) (he:Qo Y.T e=some ee) {u:Ty} (hsz:Nat.beq ee.size u.size=true)
  (hpos:Nat.ble 1 ee.size=true) (hby:Nat.ble 1 ee.bytes=true) (hzl:Nat.beq (Q4 ee.z).length ee.size=true) {xv:AV} (hs:S.ev [] s=some (.s id)) (hx:S.ev [] x=some xv) {xs ys zs:List u.De} (hm:Qk S.mem id=some (.tail e u xs)) (hy:asD S.flat.mem xv (.sl u)=some ys)
  (happ:app ee.bytes xs ys=some zs) (hk:k (({ S with mem:=Ya S.mem id }.born d (.tail e u zs)).put d [] (.s d))=some r) (H:KOk P ops Q rest X S β ρ k r):wpList P ops Q (o::rest) a w:=by
 obtain⟨f1,f2,f3⟩:=Ch hb;obtain⟨h1,h2⟩:=Ue hwd hX hr;have hg:=T2 h hw;obtain⟨A2,m2,c2,hxe,hyv⟩:=slV h hx hy;obtain⟨c1,hse,⟨v0,hs2,hz0⟩,A,m,c,hρ⟩:=h.ev (Qi a) hs;subst hs2;have hm':Qk S.flat.mem id=some (.tail e u xs):=Jd hm;have e4':Ya S.mem id++S.fixM=Ya S.flat.mem id:=(Ge hm).symm;rcases hz0 with hz0 | ⟨h00,A0,hz0⟩
 case inr =>
  have hse':a.eval s=.slice A0 0 0:=by rw[hse,←hz0]; rfl
  have hxs:xs=[]:=by
   have:=(h.ob hm').1.1;rw[h00]at this;grind [Qrm,List.length_eq_zero_iff]
  subst hxs;have hR:=h.dropM hm'
  have hok':∀b o,okR X β ρ S.flat.mem w b o→Jr X.ok X.w.heap.size (fun _=>0) [] (Qq β ρ (Ya S.flat.mem id)) w b o:=by
   rintro b o ⟨o1,o2,o3,o4⟩;refine⟨o1,o2,o3,fun t ht hc=>?_⟩;obtain⟨l1,l2,e1,_,e3⟩:=J8 hm';grind
  have hfz:∀{ρ1:Nat→Value} {a1:Act} {w1:World},Rel X β ρ1 ⟨⟨d,[],.s d⟩::(Vw (Ux d S.env) d++S.fix),(d,.row e u zs)::(Ya S.mem id++S.fixM)⟩ a1 w1→Rel X β ρ1 ⟨⟨d,[],.s d⟩::(Vw (Ux d S.env) d++S.fix),(d,.tail e u zs)::(Ya S.mem id++S.fixM)⟩ a1 w1 :=
   fun hq=>Rel.freeze1 (l1:=[]) hq (by rw[←Nat.eq_of_beq_eq_true hsz]; exact hpos)
  rw[N4 o,hd,hop]at hg ⊢;refine Qfz (a:=a) hT hR.toG (r:=rt u) hg h1 hte htd he (by rw[Jo]; exact Nat.eq_of_beq_eq_true hsz) hzl hpos hby (by rw[gvE h (Qi a) hs,hse']) (by rw[gvE h (Qi a) hx,hxe]) (Jkr (hyv.weak hok')) happ (fun hz a' hS=>?_) fun A' c' a' w' hS=>?_
  ·subst hz
   rw[←e4']at hS;exact H β (upd ρ d (.slice none 0 0)) _ _ _ hk ⟨rfl,rfl,rfl,Fz f3 (Yg d β ρ _)⟩ (hfz (Qx9 (S:={ S with mem:=Ya S.mem id }) hX hr h.sz hwd f1 f2 f3 hS))
  ·rw[←e4']at hS
   refine H β (upd ρ d (.slice A' zs.length c')) _ _ _ hk ⟨rfl,rfl,rfl,Fz f3 (Yg d β ρ _)⟩ (hfz ?_);exact Xi (S:={ S with mem:=Ya S.mem id }) (o:=.row e u zs) hX hr h.sz hwd f1 f2 f3 hS (by grind [Jb,Jm,Fx.refl]) ⟨_,_,_,rfl⟩
 have hse':a.eval s=.slice A m c:=by rw[hse,←hρ,←hz0]; rfl
 have hes:ee.size=(rt u).size:=by rw[Jo]; exact Nat.eq_of_beq_eq_true hsz
 obtain⟨l1,l2,e1,_,e3⟩:=J8 hm';have hO:Qq β ρ S.flat.mem=Qq β ρ l1++Qi5 (.slice A m c) e (rt u) xs::Qq β ρ l2:=by rw[e1]; simp[Qq,Jb,hρ]
 have hG:=h.toG;rw[hO]at hG
 have hxv:isV (rSl (rt u)) (Jr X.ok X.w.heap.size (fun _=>0) [] (Qq β ρ S.flat.mem) w) w xs (.slice A m c):=by
  have:=(h.ob hm').1.1;rw[hρ]at this;exact this
 have hsim:Ha (Qq β ρ l1++Qi5 (.slice A m c) e (rt u) xs::Qq β ρ l2) (Qq β ρ l1++tl (.slice A m c) e ee.size::Qq β ρ l2) :=
  (Ha.refl _).append (.cons ⟨fun _=>Iff.rfl,fun _ _=>by rw[hes]; exact Iff.rfl,fun _ _ hp=>by rw[hes]; exact hp.2⟩ (Ha.refl _))
 have hG2:=Sb.simO hG hsim;have hok:∀b o,Jr X.ok X.w.heap.size (fun _=>0) [] (Qq β ρ S.flat.mem) w b o→Jr X.ok X.w.heap.size (fun _=>0) [] (Qq β ρ l1++tl (.slice A m c) e ee.size::Qq β ρ l2) w b o:=by rw[hO]; exact hsim.ok
 have hG3:=hG2.addD (d:=DF.v (rSl (rt u)) xs (.slice A m c)) (hxv.weak hok);rw[N4 o,hd,hop]at hg ⊢;refine Ja8 hT hG3 0 0 (Qq β ρ l1) (Qq β ρ l2) (r:=rt u) hg h1 hte htd he hes hzl hpos hby rfl (by rw[gvE h (Qi a) hs,hse']) (by rw[gvE h (Qi a) hx,hxe]) rfl (hyv.weak hok) happ fun A' c' a' w' hv' hS=>?_;refine H β (upd ρ d (.slice A' zs.length c')) _ _ _ hk ⟨rfl,rfl,rfl,Fz f3 (Yg d β ρ _)⟩ ?_;have e4:Ya S.mem id++S.fixM=l1++l2:=by rw[←Ge hm]; exact e3
 have hS1:Sb (fun _=>0) X (Qfp (Qqa X.n a) d (.v (.slice A' zs.length c'))) (S.flat.env.map (enD β ρ a)) [] (Qq β ρ l1++tl (.slice A' zs.length c') e ee.size::Qq β ρ l2) a' w':={ hS with dat:=hS.dat.2 }
 have hpw:=QA.1 hS1.dOO
 have hS2:Sb (fun _=>0) X (Qfp (Qqa X.n a) d (.v (.slice A' zs.length c'))) (S.flat.env.map (enD β ρ a)) [] (Qq β ρ l1++Qi5 (.slice A' zs.length c') e (rt u) zs::Qq β ρ l2) a' w':=by
  refine Sb.remake hS1 (fun t' ht'=>?_) ?_
  ·rcases QZ.1 ht' with ht' | ht'
   ·exact .inl ⟨t',by simp[ht'],fun _ hg=>hg,fun _ _ hc=>hc,(hS1.own t' (by simp[ht'])).1⟩
   ·rcases QX.1 ht' with rfl | ht'
    ·refine .inl ⟨tl (.slice A' zs.length c') e ee.size,by simp,fun _ hg=>hg,fun _ _ hc=>by rw[hes]; exact hc,hv',?_⟩
     have:=(hS1.own (tl (.slice A' zs.length c') e ee.size) (by simp)).1;rw[hes]at this;exact this
    ·exact .inl ⟨t',by simp[ht'],fun _ hg=>hg,fun _ _ hc=>hc,(hS1.own t' (by simp[ht'])).1⟩
  ·have hp2:=List.pairwise_cons.1 hpw.2.1
   refine QA.2 ⟨hpw.1,List.pairwise_cons.2 ⟨fun u hu=>hp2.1 u hu,hp2.2⟩,fun t ht t' ht'=>?_⟩;rcases QX.1 ht' with rfl | ht'
   ·exact hpw.2.2 t ht (tl (.slice A' zs.length c') e ee.size) (.head _)
   grind
 have hS':=hS2.perm (O':=Qi5 (.slice A' zs.length c') e (rt u) zs::Qq β ρ (Ya S.mem id++S.fixM)) (by rw[e4]; simp[Qq,QC,List.perm_middle]);exact Xi (S:={ S with mem:=Ya S.mem id }) (o:=.tail e u zs) hX hr h.sz hwd f1 f2 f3 hS' (by grind [Jb,Jm,Fx.refl]) ⟨_,_,_,rfl⟩
theorem J58(hT:Jg P Y.T)(hX:X.n=n)(hr:X.res=[])(h:Rel X β ρ S.flat a w){o:Oper}(hw:Region.wanted o (yielded ops a.tmps)=true){d:Nat}(hd:o.dst=some d)(hwd:okW n S d=true)(hb:okB S d=true)
  {t:TypeId} {s x:Operand} (hop:o.op=.call ⟨.builtin .append,⟨[s,x]⟩,⟨[t,t]⟩⟩) {te ee:TE} {e:TypeId} (hte:Qo Y.T t=some te) (htd:te.d=.slice e) (he:Qo Y.T e=some ee) {u:Ty} (hsz:Nat.beq ee.size u.size=true)
  (hpos:Nat.ble 1 ee.size=true) (hby:Nat.ble 1 ee.bytes=true) (hzl:Nat.beq (Q4 ee.z).length ee.size=true) {xv:AV} (hs:S.ev [] s=some .z) (hx:S.ev [] x=some xv) {ys zs:List u.De} (hy:asR S.flat.mem xv u=some ys)
  (happ:app ee.bytes [] ys=some zs) (hk:k ((S.born d (.row e u zs)).put d [] (.s d))=some r) (H:KOk P ops Q rest X S β ρ k r):wpList P ops Q (o::rest) a w:=by
 obtain⟨f1,f2,f3⟩:=Ch hb;obtain⟨h1,h2⟩:=Ue hwd hX hr;have hg:=T2 h hw;obtain⟨A2,m2,c2,hxe,hyv⟩:=slR h hx hy;obtain⟨c1,hse,A,hs2⟩:=h.ev (Qi a) hs;subst hs2;have hse':a.eval s=.slice A 0 0:=hse;rw[N4 o,hd,hop]at hg ⊢;refine Qfz hT h.toG (r:=rt u) hg h1 hte htd he (by rw[Jo]; exact Nat.eq_of_beq_eq_true hsz) hzl hpos hby (by rw[gvE h (Qi a) hs,hse']) (by rw[gvE h (Qi a) hx,hxe]) hyv happ (fun hz a' hS=>?_) fun A' c' a' w' hS=>?_
 ·subst hz
  exact H β (upd ρ d (.slice none 0 0)) _ _ _ hk (Kn f3 (Yg d β ρ _) _ _ _) (Qx9 hX hr h.sz hwd f1 f2 f3 hS)
 ·refine H β (upd ρ d (.slice A' zs.length c')) _ _ _ hk (Kn f3 (Yg d β ρ _) _ _ _) ?_
  exact Xi (o:=.row e u zs) hX hr h.sz hwd f1 f2 f3 hS (by grind [Jb,Jm,Fx.refl]) ⟨_,_,_,rfl⟩
end
end Gx

/- Strings as bytes, strings that are appended to bytes. -/
namespace Gx
open Go Go.RowKit Go.Lib Gd
theorem Qf0(l:Str):strCells ⟨⟨l⟩⟩=(Xx l).map (Value.int .u8):=by simp[strCells,Xx]
theorem Ql0{k:IntKind}{ok:Ok}{w:World}:∀xs:List Int,Ga (Qfo k) ok w xs (xs.map (Value.int k))
 | []=>rfl
 | x::xs=>⟨[.int k x],xs.map (Value.int k),rfl,rfl,Ql0 xs⟩
theorem Jz1{v:Value}(h:J52 v=true):v=.int .u8 0:=by
 grind [J52]
theorem Jz2{d:TypeDesc}(h:J53 d=true):d=.int .u8:=by
 grind [J53]
theorem Jps{d:TypeDesc}(h:Jia d=true):d=.string:=by
 grind [Jia]
theorem Jb7(w:World)(e:TypeId)(s:ByteArray):Below w.heap.size w (bytesWorld w e s) :=
 ⟨rfl,rfl,rfl,by rw[bytesWorld_size]; omega,fun b hb=>bytesWorld_at_old w e s b hb⟩
section
variable {P:Program} {T:Tab} {β:Nat→Nat} {X:Cx} {G:GL} {D:List DF} {H:HL} {O:List TL} {a:Act} {w w':World}
variable {ops:Array Oper} {Q:Exit→Act→World→Prop} {rest:List Oper}
theorem Qya(hT:Jg P T)(h:Sb β X G D H O a w)(O1 O2:List TL){t t':TypeId}{s x:Operand}{d:Nat}{ps:String}{af:Array Edge}{ty:TypeId}{gd:Option (Nat×Bool)}
  (hg:Nu ops G ⟨some d,.call ⟨.builtin .append,⟨[s,x]⟩,⟨[t,t']⟩⟩,ty,ps,af,gd⟩=some true) (hlt:okD X d=true)
  {xs zs:List Int} {l:Str} {A:Option Addr} {m c:Nat} {e:TypeId} {te te' ee:TE} (ht:Qo T t=some te) (htd:te.d=.slice e) (ht':Qo T t'=some te') (htd':te'.d=.string) (he:Qo T e=some ee)
  (hz:ee.z=.int .u8 0) (hsz:ee.size=1) (hby:ee.bytes=1)
  (hO:O=O1++ml (.slice A m c) e (Qfo .u8) xs::O2) (hs1:gv G s=some (.v (.slice A m c))) (hx1:gv G x=some (.v (Yw l))) (happ:app 1 xs (Xx l)=some zs)
  (hk:∀A' c' a' w',Sb β X (Qfp G d (.v (.slice A' zs.length c'))) D H (O1++ml (.slice A' zs.length c') e (Qfo .u8) zs::O2) a' w'→wpList P ops Q rest a' w') :
  wpList P ops Q (⟨some d,.call ⟨.builtin .append,⟨[s,x]⟩,⟨[t,t']⟩⟩,ty,ps,af,gd⟩::rest) a w:=by
 obtain⟨hbytes,rfl⟩:=Qrn happ;have hmem:ml (.slice A m c) e (Qfo .u8) xs∈O:=by rw[hO]; simp
 obtain⟨⟨hl,xs0,hown,hr⟩,hmine⟩:=h.own _ hmem;obtain⟨i,hi,hz',hs',hb'⟩:=Ek hT he;simp only[Gj]at hown hl;have hll:(Xx l).length=l.length:=by simp[Xx]
 have hu:=(J0 hT ht).2; rw[htd]at hu;have hu':=(J0 hT ht').2; rw[htd']at hu';have hsl:(⟨⟨l⟩⟩:ByteArray).size=l.length:=rfl;obtain⟨v',w1,hrun,hown',hgrow,hblk⟩:=Qi4 (P:=P) (w:=w) (ty:=ty) hu hu' hi (by rw[hz',hz]) (by rw[hs',hsz]) (by rw[hb',hby]) (base:=0) (v:=.slice A m c) (n:=m) (xs:=xs0) hown ⟨⟨l⟩⟩ (by rw[hsl]; omega) (QN _);rw[hsl]at hown'
 have hrun':(execOp a.eval ⟨some d,.call ⟨.builtin .append,⟨[s,x]⟩,⟨[t,t']⟩⟩,ty,ps,af,gd⟩).run P w=.ok (.value v') w1:=by
  unfold execOp;have hm:(Array.mk [s,x]).map a.eval=⟨[.slice A m c,Yw l]⟩:=by simp[h.ev hs1,h.ev hx1,R4]
  simp_all [resolve,invoke,builtin,Yw]
 have hform:∃A' c',v'=.slice A' (m+l.length) c':=by
  rcases hown'.2 with⟨rfl,h0⟩ | ⟨g,cap,cur,fz,rfl,_⟩
  ·grind
  grind
 obtain⟨A',c',rfl⟩:=hform;have hlen:m+l.length=(xs++Xx l).length:=by rw[List.length_append,hl,hll]
 refine J5 (Wm h hg) (Vi hrun' ?_)
 have hS:Sb β X G D H (O1++ml (.slice A' (m+l.length) c') e (Qfo .u8) (xs++Xx l)::O2) a w1:=by
  refine h.upd hO hgrow.os hgrow.tape hgrow.output hgrow.size (fun b hb hn=>hgrow.block b hb fun e=>hn e.symm) (fun b o hb=>hb) (fun g hg=>?_) fun hevo hok=>?_
  ·rcases hblk with he1 | ⟨he1,_⟩
   ·exact .inl (by have hg:(Value.slice A' (m+l.length) c').ownBlock=some g:=hg; rw[he1]at hg; exact hg)
   ·have hg:(Value.slice A' (m+l.length) c').ownBlock=some g:=hg
    rw[he1]at hg; grind
  ·refine⟨hlen,xs0++strCells ⟨⟨l⟩⟩,hown',Qbv (Hh (Ig hr hevo) hok) ?_⟩
   rw[Qf0];exact Ql0 _
 have:=hk A' c' (a.put (some d) (.slice A' (m+l.length) c')) w1;rw[←hlen]at this;exact this (hS.put hlt (.v _))
theorem Jii(hT:Jg P T)(h:Sb β X G D H O a w){t t':TypeId}{s x:Operand}{d:Nat}{ps:String}{af:Array Edge}{ty:TypeId}{gd:Option (Nat×Bool)}
  (hg:Nu ops G ⟨some d,.call ⟨.builtin .append,⟨[s,x]⟩,⟨[t,t']⟩⟩,ty,ps,af,gd⟩=some true) (hlt:okD X d=true)
  {zs:List Int} {l:Str} {A:Option Addr} {e:TypeId} {te te' ee:TE} (ht:Qo T t=some te) (htd:te.d=.slice e) (ht':Qo T t'=some te') (htd':te'.d=.string) (he:Qo T e=some ee)
  (hz:ee.z=.int .u8 0) (hsz:ee.size=1) (hby:ee.bytes=1)
  (hs1:gv G s=some (.v (.slice A 0 0))) (hx1:gv G x=some (.v (Yw l))) (happ:app 1 [] (Xx l)=some zs)
  (hk1:zs=[]→∀a',Sb β X (Qfp G d (.v (.slice A 0 0))) D H O a' w→wpList P ops Q rest a' w)
  (hk2:∀A' c' a' w',Sb β X (Qfp G d (.v (.slice A' zs.length c'))) D H (ml (.slice A' zs.length c') e (Qfo .u8) zs::O) a' w'→wpList P ops Q rest a' w') :
  wpList P ops Q (⟨some d,.call ⟨.builtin .append,⟨[s,x]⟩,⟨[t,t']⟩⟩,ty,ps,af,gd⟩::rest) a w:=by
 obtain⟨hbytes,hzs⟩:=Qrn happ;simp only[QE,JW,QW]at hbytes hzs;subst hzs;obtain⟨i,hi,hz',hs',hb'⟩:=Ek hT he;have hll:(Xx l).length=l.length:=by simp[Xx]
 have hu:=(J0 hT ht).2; rw[htd]at hu;have hu':=(J0 hT ht').2; rw[htd']at hu';have hsl:(⟨⟨l⟩⟩:ByteArray).size=l.length:=rfl;have hm:(Array.mk [s,x]).map a.eval=⟨[.slice A 0 0,Yw l]⟩:=by simp[h.ev hs1,h.ev hx1,R4]
 have hexec:∀v' w1,(Builtin.append_ #[t,t'] ty #[.slice A 0 0,.string ⟨⟨l⟩⟩]).run P w=.ok v' w1→(execOp a.eval ⟨some d,.call ⟨.builtin .append,⟨[s,x]⟩,⟨[t,t']⟩⟩,ty,ps,af,gd⟩).run P w=.ok (.value v') w1:=by
  simp_all [execOp,resolve,invoke,builtin,Yw]
 by_cases hl0:l.length=0
 ·have hl:l=[]:=QF hl0
  subst hl
  have hrun:(Builtin.append_ #[t,t'] ty #[.slice A 0 0,.string ⟨⟨[]⟩⟩]).run P w=.ok (.slice A 0 0) w:=by
   have hs0:(⟨⟨[]⟩⟩:ByteArray).size=0:=rfl;cases A<;>simp[Builtin.append_,run_underlying hu,run_underlying hu',Go.sizeOf,typeInfo,hi,Builtin.lenOf,Builtin.firstCells,storeCells,hs0]
  refine J5 (Wm h hg) (Vi (hexec _ _ hrun) ?_);exact hk1 rfl _ (h.put hlt (.v _))
 ·have hone:(Builtin.append_ #[t,t'] ty #[.slice A 0 0,.string ⟨⟨l⟩⟩]).run P w=(Builtin.append_ #[t,t'] ty #[.slice none 0 0,.string ⟨⟨l⟩⟩]).run P w:=by
   have hn:=run_append_nil_string (P:=P) w t t' ty e i (.int .u8 0) hu hu' hi (by rw[hz',hz]) ⟨⟨l⟩⟩ (by rw[hsl]; omega) (by rw[hsl]; omega) (by rw[hb',hby,hsl]; omega);cases A with
   | none=>rfl
   | some ad =>
    have:=run_append_grow_string (P:=P) w t t' ty e i (.int .u8 0) hu hu' hi (by rw[hz',hz]) ad 0 0 [] (by simp) (by simp) ⟨⟨l⟩⟩ (by rw[hsl]; omega) (by rw[hsl]; omega) (by rw[hb',hby,hsl]; exact growslice_fits (by omega) (by omega));have e0:(strCells ⟨⟨l⟩⟩).toArray=(List.map (fun b=>Value.int .u8 (b.toNat:Int)) l).toArray:=by simp[strCells]
    rw[this,hn]; simp[e0]
  have h0:=Sb.addNilM h e (Qfo .u8);obtain⟨v',w1,hrun,hown',hgrow,hblk⟩:=Qi4 (P:=P) (w:=w) (ty:=ty) hu hu' hi (by rw[hz',hz]) (by rw[hs',hsz]) (by rw[hb',hby]) (base:=0) (v:=.slice none 0 0) (n:=0) (xs:=[]) (World.ownsRowS_nil w 0 e 1) ⟨⟨l⟩⟩ (by rw[hsl]; omega) (QN _);rw[hsl]at hown';refine J5 (Wm h hg) (Vi (hexec _ _ (hone.trans hrun)) ?_)
  have hform:∃A' c',v'=.slice A' (0+l.length) c':=by
   rcases hown'.2 with⟨rfl,h0⟩ | ⟨g,cap,cur,fz,rfl,_⟩
   ·grind
   grind
  obtain⟨A',c',rfl⟩:=hform;rw[QW]at hown';rw[QW]at hblk
  have hS:Sb β X G D H (ml (.slice A' l.length c') e (Qfo .u8) (Xx l)::O) a w1:=by
   refine h0.upd (O1:=[]) rfl hgrow.os hgrow.tape hgrow.output hgrow.size (fun b hb hn=>hgrow.block b hb fun e=>hn e.symm) (fun b o hb=>hb) (fun g hg=>?_) fun hevo hok=>?_
   ·rcases hblk with he1 | ⟨he1,_⟩
    ·exact .inl (by have hg:(Value.slice A' l.length c').ownBlock=some g:=hg; rw[he1]at hg; exact hg)
    ·have hg:(Value.slice A' l.length c').ownBlock=some g:=hg
     rw[he1]at hg; grind
   ·refine⟨by simp[Gj,hll],strCells ⟨⟨l⟩⟩,(by have q:=hown'; simp only[QE]at q; exact q),?_⟩
    rw[Qf0];exact Ql0 _
  have:=hk2 A' c' (a.put (some d) (.slice A' l.length c')) w1;rw[hll]at this;rw[QW];exact this (hS.put hlt (.v _))
end
section
variable {P:Program} {Y:TX} {X:Cx} {S:XS} {β β':Nat→Nat} {ρ ρ':Nat→Value} {a a':Act} {w w':World} {n:Nat}
variable {ops:Array Oper} {Q:Exit→Act→World→Prop} {rest:List Oper} {R:Type} {k:XS→Option R} {r:R}
theorem Jpt(hT:Jg P Y.T)(hX:X.n=n)(hr:X.res=[])(h:Rel X β ρ S.flat a w){o:Oper}(hw:Region.wanted o (yielded ops a.tmps)=true){d:Nat}(hd:o.dst=some d)(hwd:okW n S d=true){id:Nat}
  (hb:okB ⟨S.env,S.fix,Ya S.mem id,S.fixM,S.prot⟩ d=true)
  {t t':TypeId} {s x:Operand} (hop:o.op=.call ⟨.builtin .append,⟨[s,x]⟩,⟨[t,t']⟩⟩) {te te' ee:TE} {e:TypeId} (hte:Qo Y.T t=some te) (htd:te.d=.slice e) (hte':Qo Y.T t'=some te') (htd':te'.d=.string) (he:Qo Y.T e=some ee)
  (hz:ee.z=.int .u8 0) (hsz:ee.size=1) (hby:ee.bytes=1) {l:Str} (hs:S.ev [] s=some (.s id)) (hx:S.ev [] x=some (.d .str l)) {xs zs:List Int} (hm:Qk S.mem id=some (.row e (.int .u8) xs))
  (happ:app 1 xs (Xx l)=some zs) (hk:k (({ S with mem:=Ya S.mem id }.born d (.row e (.int .u8) zs)).put d [] (.s d))=some r) (H:KOk P ops Q rest X S β ρ k r):wpList P ops Q (o::rest) a w:=by
 obtain⟨f1,f2,f3⟩:=Ch hb;obtain⟨h1,h2⟩:=Ue hwd hX hr;have hg:=T2 h hw;have hxe:a.eval x=Yw l:=h.toW.str (Qi a) hx rfl;obtain⟨c1,hse,⟨v0,hs2,hz0⟩,A,m,c,hρ⟩:=h.ev (Qi a) hs;subst hs2;have hm':Qk S.flat.mem id=some (.row e (.int .u8) xs):=Jd hm;have e4':Ya S.mem id++S.fixM=Ya S.flat.mem id:=(Ge hm).symm;rcases hz0 with hz0 | ⟨h00,A0,hz0⟩
 case inr =>
  have hse':a.eval s=.slice A0 0 0:=by rw[hse,←hz0]; rfl
  have hxs:xs=[]:=by
   have:=(h.ob hm').1.1;rw[h00]at this;exact List.length_eq_zero_iff.1 this.symm
  subst hxs;have hR:=h.dropM hm';rw[N4 o,hd,hop]at hg ⊢;refine Jii (a:=a) hT hR.toG hg h1 hte htd hte' htd' he hz hsz hby (by rw[gvE h (Qi a) hs,hse']) (by rw[gvE h (Qi a) hx,hxe]) happ (fun hz a' hS=>?_) fun A' c' a' w' hS=>?_
  ·subst hz
   rw[←e4']at hS;exact H β (upd ρ d (.slice none 0 0)) _ _ _ hk ⟨rfl,rfl,rfl,Fz f3 (Yg d β ρ _)⟩ (Qx9 (u:=.int .u8) (S:={ S with mem:=Ya S.mem id }) hX hr h.sz hwd f1 f2 f3 hS)
  ·rw[←e4']at hS
   refine H β (upd ρ d (.slice A' zs.length c')) _ _ _ hk ⟨rfl,rfl,rfl,Fz f3 (Yg d β ρ _)⟩ ?_;exact Xi (S:={ S with mem:=Ya S.mem id }) (o:=.row e (.int .u8) zs) hX hr h.sz hwd f1 f2 f3 hS (by simp only[Jb,Jm]; exact Fx.refl _) ⟨_,_,_,rfl⟩
 have hse':a.eval s=.slice A m c:=by rw[hse,←hρ,←hz0]; rfl
 obtain⟨l1,l2,e1,_,e3⟩:=J8 hm';have hO:Qq β ρ S.flat.mem=Qq β ρ l1++ml (.slice A m c) e (Qfo .u8) xs::Qq β ρ l2:=by rw[e1]; simp[Qq,Jb,hρ,rt]
 rw[N4 o,hd,hop]at hg ⊢;refine Qya hT h.toG (Qq β ρ l1) (Qq β ρ l2) hg h1 hte htd hte' htd' he hz hsz hby hO (by rw[gvE h (Qi a) hs,hse']) (by rw[gvE h (Qi a) hx,hxe]) happ fun A' c' a' w' hS=>?_;refine H β (upd ρ d (.slice A' zs.length c')) _ _ _ hk ⟨rfl,rfl,rfl,Fz f3 (Yg d β ρ _)⟩ ?_;have e4:Ya S.mem id++S.fixM=l1++l2:=by rw[←Ge hm]; exact e3
 have hS':=hS.perm (O':=ml (.slice A' zs.length c') e (Qfo .u8) zs::Qq β ρ (Ya S.mem id++S.fixM)) (by rw[e4]; simp[Qq,QC,List.perm_middle]);exact Xi (S:={ S with mem:=Ya S.mem id }) (o:=.row e (.int .u8) zs) hX hr h.sz hwd f1 f2 f3 hS' (by simp only[Jb,Jm]; exact Fx.refl _) ⟨_,_,_,rfl⟩
theorem Jpu(hT:Jg P Y.T)(hX:X.n=n)(hr:X.res=[])(h:Rel X β ρ S.flat a w){o:Oper}(hw:Region.wanted o (yielded ops a.tmps)=true){d:Nat}(hd:o.dst=some d)(hwd:okW n S d=true)(hb:okB S d=true)
  {t t':TypeId} {s x:Operand} (hop:o.op=.call ⟨.builtin .append,⟨[s,x]⟩,⟨[t,t']⟩⟩) {te te' ee:TE} {e:TypeId} (hte:Qo Y.T t=some te) (htd:te.d=.slice e) (hte':Qo Y.T t'=some te') (htd':te'.d=.string) (he:Qo Y.T e=some ee)
  (hz:ee.z=.int .u8 0) (hsz:ee.size=1) (hby:ee.bytes=1) {l:Str} (hs:S.ev [] s=some .ns) (hx:S.ev [] x=some (.d .str l)) {zs:List Int}
  (happ:app 1 [] (Xx l)=some zs) (hk:k ((S.born d (.row e (.int .u8) zs)).put d [] (.s d))=some r) (H:KOk P ops Q rest X S β ρ k r):wpList P ops Q (o::rest) a w:=by
 obtain⟨f1,f2,f3⟩:=Ch hb;obtain⟨h1,h2⟩:=Ue hwd hX hr;have hg:=T2 h hw;have hxe:a.eval x=Yw l:=h.toW.str (Qi a) hx rfl;obtain⟨c1,hse,hs2⟩:=h.ev (Qi a) hs;have hs2':c1=_:=hs2;subst hs2';have hse':a.eval s=.slice none 0 0:=hse;have hnil:Sb (fun _=>0) X (Qqa X.n a) (S.flat.env.map (enD β ρ a)) [] (ml (.slice none 0 0) e (Qfo .u8) []::Qq β ρ S.flat.mem) a w:=Sb.addNilM h.toG e (Qfo .u8);rw[N4 o,hd,hop]at hg ⊢;refine Qya hT hnil [] (Qq β ρ S.flat.mem) hg h1 hte htd hte' htd' he hz hsz hby rfl (by rw[gvE h (Qi a) hs,hse']) (by rw[gvE h (Qi a) hx,hxe]) happ fun A' c' a' w' hS=>?_;refine H β (upd ρ d (.slice A' zs.length c')) _ _ _ hk (Kn f3 (Yg d β ρ _) _ _ _) ?_;exact Xi (o:=.row e (.int .u8) zs) hX hr h.sz hwd f1 f2 f3 hS (by simp only[Jb,Jm]; exact Fx.refl _) ⟨_,_,_,rfl⟩
theorem Jij(hT:Jg P Y.T)(hX:X.n=n)(hr:X.res=[])(h:Rel X β ρ S.flat a w){o:Oper}(hw:Region.wanted o (yielded ops a.tmps)=true){d:Nat}(hd:o.dst=some d)(hwd:okW n S d=true)(hb:okB S d=true)
  {s t:TypeId} {x:Operand} (hop:o.op=.convert s t x) {se te ee:TE} {e:TypeId} (hse:Qo Y.T s=some se) (hte:Qo Y.T t=some te) (htd:te.d=.slice e) (he:Qo Y.T e=some ee) (hed:ee.d=.int .u8)
  {l:Str} (hx:S.ev [] x=some (.d .str l)) {zs:List Int} (happ:app 1 [] (Xx l)=some zs) (hk:k ((S.born d (.row e (.int .u8) zs)).put d [] (.s d))=some r) (H:KOk P ops Q rest X S β ρ k r):wpList P ops Q (o::rest) a w:=by
 obtain⟨f1,f2,f3⟩:=Ch hb;obtain⟨h1,h2⟩:=Ue hwd hX hr;have hxe:a.eval x=Yw l:=h.toW.str (Qi a) hx rfl;obtain⟨hbytes,hzs⟩:=Qrn happ;simp only[QE]at hzs;subst hzs;have hll:(Xx l).length=l.length:=by simp[Xx]
 have hsl:(⟨⟨l⟩⟩:ByteArray).size=l.length:=rfl;have hus:=(J0 hT hse).2;have hut:=(J0 hT hte).2; rw[htd]at hut;have hue:=(J0 hT he).2; rw[hed]at hue;have hconv:=run_convert_string_bytes (P:=P) w s t e ⟨⟨l⟩⟩ hus hut hue
 have hrun:(execOp a.eval o).run P w=.ok (.value (.slice (some ⟨w.heap.size,0,none⟩) l.length (grownCap w l.length 0 e))) (bytesWorld w e ⟨⟨l⟩⟩):=by
  simp_all [execOp,Yw,Sem.run_bind]
 refine J5 hw (Vi hrun ?_);have hge:=grownCap_ge w l.length 0 e;have hcm:grownCap w l.length 0 e≤maxLen:=grownCap_le_maxLen w l.length 0 e (by rw[Nx]; grind)
 have hcsz:(bytesCells w e ⟨⟨l⟩⟩).size=grownCap w l.length 0 e:=by
  simp only[bytesCells,ZU,Array.size_map,Array.size_replicate,hsl];have:(⟨l⟩:Array UInt8).size=l.length:=rfl;omega
 have hown:(bytesWorld w e ⟨⟨l⟩⟩).ownsRowS 0 e 1 (.slice (some ⟨w.heap.size,0,none⟩) l.length (grownCap w l.length 0 e)) l.length (strCells ⟨⟨l⟩⟩):=by
  refine⟨by rw[strCells_length,hsl,ZY],.inr ⟨w.heap.size,_,_,_,rfl,QN _,bytesWorld_at_new w e ⟨⟨l⟩⟩,.inr rfl,hge,hcm,by rw[hcsz,ZY]; grind,?_⟩⟩;simp only[bytesCells,Array.toList_append,ZY];rw[JT (by simp),List.take_of_length_le (by simp)];simp[strCells]
 have hbel:=Jb7 w e ⟨⟨l⟩⟩
 have hS:=Sb.allocTL h.toG hbel (t:=ml (.slice (some ⟨w.heap.size,0,none⟩) l.length (grownCap w l.length 0 e)) e (Qfo .u8) (Xx l)) (fun g hg=>by
  have hg:some w.heap.size=some g:=hg
  grind) ⟨by simp[Gj,hll],_,hown,by rw[Qf0]; exact Ql0 _⟩
 rw[hd];refine H β (upd ρ d (.slice (some ⟨w.heap.size,0,none⟩) l.length (grownCap w l.length 0 e))) _ _ _ hk (Kn f3 (Yg d β ρ _) _ _ _) ?_;exact Xi (o:=.row e (.int .u8) (Xx l)) hX hr h.sz hwd f1 f2 f3 (hS.put h1 (.v _)) (by simp only[Jb,Jm]; exact Fx.refl _) ⟨_,_,_,rfl⟩
end
end Gx

/- The builtin copy. -/
namespace Gx
open Go Go.RowKit Gd
theorem Q3j{τ:Type}{r:RT τ}{ok:Ok}{w:World}:∀{xs:List τ} {cs:List Value} (k:Nat),Ga r ok w xs cs→Ga r ok w (xs.drop k) (cs.drop (k*r.size))
 | xs,cs,0,h=>by simpa using h
 | [],cs,k+1,h=>by
  have h':cs=[]:=h;grind
 | x::xs,cs,k+1,⟨c1,c2,e,h1,h2⟩=>by
  have hl:=r.len h1;subst e
  have e2:(c1++c2).drop ((k+1)*r.size)=c2.drop (k*r.size):=by
   rw[List.drop_append,ZD (by rw[hl,Nat.add_mul]; omega),QE,hl];grind
  rw[e2];simpa using Q3j k h2
theorem Q3k{τ:Type}{r:RT τ}{ok:Ok}{w:World}:∀{xs:List τ} {cs:List Value} (k:Nat),Ga r ok w xs cs→Ga r ok w (xs.take k) (cs.take (k*r.size))
 | xs,cs,0,h=>by simp[Ga]
 | [],cs,k+1,h=>by
  have h':cs=[]:=h;grind
 | x::xs,cs,k+1,⟨c1,c2,e,h1,h2⟩=>by
  have hl:=r.len h1;subst e;refine⟨c1,c2.take (k*r.size),?_,h1,Q3k k h2⟩;rw[XC,List.take_of_length_le (by rw[hl,Nat.add_mul]; omega),hl];grind
theorem J1x{P:Program}{w:World}(a:Addr)(cs:List Value)(k:Nat)(hk:cs.length=k)(h:∀j v,cs[j]?=some v→w.cell? (a.add j)=some v):(loadCells a k).run P w=.ok cs.toArray w:=by
 grind [run_loadCells_list]
section
variable {P:Program} {w:World} {dT sT ty elem:TypeId} {i:TypeInfo}
theorem Jpv(hu:P.underlying dT=some (.slice elem))(hi:P.info? elem=some i){d a:Option Addr}{dLen dCap sLen sCap:Nat}(hn:Nat.min sLen dLen=0) :
  (Builtin.copy_ #[dT,sT] ty #[.slice d dLen dCap,.slice a sLen sCap]).run P w=.ok (goInt 0) w:=by
 have hl:∀(x:Addr),(loadCells x 0).run P w=.ok #[] w:=fun x=>J1x x [] 0 rfl (by simp);cases d<;>cases a<;>simp[Builtin.copy_,run_underlying hu,Builtin.lenOf,Builtin.firstCells,Go.sizeOf,typeInfo,hi,hn,storeCells,hl]
theorem Jpw(hu:P.underlying dT=some (.slice elem))(hi:P.info? elem=some i){g dLen dCap sLen sCap:Nat}{a:Addr}{cur:Array Value}{t:TypeId}{fz:Nat×Nat}{cs:List Value}(hg:w.heap[g]?=some (.cells cur t fz))(hfz:Q6g fz cur.size)
  (hn:cs.length=Nat.min sLen dLen*i.size) (hsrc:∀j v,cs[j]?=some v→w.cell? (a.add j)=some v) (hfit:cs.length≤cur.size) (h1:∀v∈cs,v.oneCell'=true) :
  (Builtin.copy_ #[dT,sT] ty #[.slice (some ⟨g,0,none⟩) dLen dCap,.slice (some a) sLen sCap]).run P w=.ok (goInt (Nat.min sLen dLen:Nat)) (w.setRow g (cs++cur.toList.drop cs.length).toArray):=by
 have hl:=J1x (P:=P) (w:=w) a cs _ hn hsrc;have hst:=Kh P g 0 t fz cs 0 cur w hg hfz (by grind) h1;simp only[XQ,QW,ZJ,QE]at hst;simp_all [Builtin.copy_,run_underlying,Builtin.lenOf,Builtin.firstCells,Go.sizeOf,typeInfo]
end
section
variable {P:Program} {Y:TX} {X:Cx} {S:XS} {β β':Nat→Nat} {ρ ρ':Nat→Value} {a a':Act} {w w':World} {n:Nat}
variable {ops:Array Oper} {Q:Exit→Act→World→Prop} {rest:List Oper} {R:Type} {k:XS→Option R} {r:R}
theorem J59(hT:Jg P Y.T)(hX:X.n=n)(hr:X.res=[])(h:Rel X β ρ S.flat a w){o:Oper}(hw:Region.wanted o (yielded ops a.tmps)=true){d:Nat}(hd:o.dst=some d)(hwd:okW n S d=true){t t':TypeId}{dst src:Operand}
  (hop:o.op=.call ⟨.builtin .copy,⟨[dst,src]⟩,⟨[t,t']⟩⟩) {te ee:TE} {e:TypeId} (hte:Qo Y.T t=some te) (htd:te.d=.slice e) (he:Qo Y.T e=some ee) {id:Nat} {xv:AV} {et:TypeId} {u:Ty} {xs ys:List u.De} (hs:S.ev [] dst=some (.s id)) (hx:S.ev [] src=some xv)
  (hm:Qk S.mem id=some (.row et u xs)) (hy:asD S.flat.mem xv (.sl u)=some ys) (hsz:Nat.beq ee.size u.size=true) (hpos:Nat.ble 1 u.size=true)
  (hk:k ((S.set id (.row et u (Pb xs ys))).put d [] (.d (.int .i64) (Qnb xs ys)))=some r) (H:KOk P ops Q rest X S β ρ k r):wpList P ops Q (o::rest) a w:=by
 obtain⟨h1,h2⟩:=Ue hwd hX hr;have hm':Qk S.flat.mem id=some (.row et u xs):=Jd hm;obtain⟨l1,l2,e1,e2,e3⟩:=J8 hm';obtain⟨c1,hse,⟨v0,hs2,hz0⟩,A,m,c,hρ⟩:=h.ev (Qi a) hs;subst hs2
 have hag:(Ty.sl u).agg=xv.isAgg:=by
  cases xv with
  | d t' y'=>obtain⟨rfl,_⟩:=Ty.cast_ok (by simpa only[asD]using hy); rfl
  | ag l=>simp[asD]at hy
  | _=>rfl
 have hiv:=h.toW.asD (Qi a) hx hy hag;obtain⟨A2,c2,hev,hyv⟩:=Qrm (r:=rt u) hiv;obtain⟨cs,hcl,hyl,hyc,hA2,hc1,hc3,hc4⟩:=Qbu (Xv.1 hyv);obtain⟨i,hi,_,his,_⟩:=Ek hT he;have hu:=(J0 hT hte).2; rw[htd]at hu;have hsu:=Nat.eq_of_beq_eq_true hsz;obtain⟨⟨hl0,cs0,hown0,hr0⟩,_⟩:=h.ob hm';have hO:Qq β ρ S.flat.mem=Qq β ρ l1++ml (ρ id) et (rt u) xs::Qq β ρ l2:=by rw[e1]; simp[Qq,Jb]
 have hgo:∀w1,Sb (fun _=>0) X [] (S.flat.env.map (enD β ρ a)) [] (Qq β ρ l1++ml (ρ id) et (rt u) (Pb xs ys)::Qq β ρ l2) a w1→wpList P ops Q rest (a.put (some d) (goInt (Qnb xs ys))) w1:=by
  intro w1 hS
  have hE:(S.set id (.row et u (Pb xs ys))).flat=⟨S.flat.env,Qps S.flat.mem id (.row et u (Pb xs ys))⟩:=by
   grind [XS.flat,XS.set,Dk]
  refine H β ρ ((S.set id (.row et u (Pb xs ys))).put d [] (.d (.int .i64) (Qnb xs ys))) _ _ hk ⟨rfl,rfl,rfl,agP.refl _ _ _⟩ ?_;have hmem:Qq β ρ (l1++(id,Ob.row et u (Pb xs ys))::l2)=Qq β ρ l1++ml (ρ id) et (rt u) (Pb xs ys)::Qq β ρ l2:=by simp[Qq,Jb]
  have hRel:Rel X β ρ (S.set id (.row et u (Pb xs ys))).flat a w1:=by
   rw[hE,e2]
   exact Rel.ofSb hS hmem.symm fun e he=>by
    have:=Yq.1 hS.dat _ (QK.2 ⟨e,he,rfl⟩);rw[←hmem]at this;exact this
  have:=hRel.put0 h1 (x:=.d (.int .i64) (Qnb xs ys)) (c:=[.int .i64 (Qnb xs ys)]) rfl;rw[←Hb (S:=S.set id (.row et u (Pb xs ys))) h2]at this;exact this
 have hm2:∀v,a.eval dst=v→(execOp a.eval o).run P w=((Builtin.copy_ #[t,t'] o.type #[v,.slice A2 ys.length c2]).run P w).andThen fun v w'=>.ok (.value v) w':=by
  simp_all [execOp,resolve,invoke,builtin]
 have hzero:∀v A' m' c',a.eval dst=v→v=.slice A' m' c'→Nat.min ys.length m'=0→Nat.min ys.length xs.length=0→wpList P ops Q (o::rest) a w:=by
  intro v A' m' c' hv hv2 hn0 hn1;refine J5 hw (Vi (w':=w) (v:=goInt 0) (by rw[hm2 v hv,hv2,Jpv hu hi hn0]; rfl) ?_);rw[hd];have hcl0:Pb xs ys=xs:=by grind [Pb]
  have hcn0:Qnb xs ys=0:=by grind [Qnb]
  have:=hgo w;rw[hcl0,hcn0,←hO]at this;exact this h
 rcases hz0 with hz0 | ⟨h00,A0,hz0⟩
 case inr =>
  have hse':a.eval dst=.slice A0 0 0:=by rw[hse,←hz0]; rfl
  have hxs:xs.length=0:=by rw[h00]at hl0; exact hl0.symm
  grind
 have hse':a.eval dst=.slice A m c:=by rw[hse,←hρ,←hz0]; rfl
 have hmx:m=xs.length:=by rw[hρ]at hl0; exact hl0
 by_cases hn0:Nat.min ys.length xs.length=0
 ·grind
 have hypos:0<ys.length:=by have:=Nat.min_le_left ys.length xs.length; grind
 have hxpos:0<xs.length:=by grind
 obtain⟨b2,o2,rfl,hcc⟩:=hc3 hypos;rcases hown0.2 with⟨hv,hn⟩ | ⟨g,cap,cur,fz,hv,_,hh,hfz,hle,hcm,hcs,hcur⟩
 ·rw[hρ]at hv; grind
 rw[hρ]at hv;injection hv with hA hm1 hcap
 subst hA;have hlenV:Gj (ρ id)=xs.length:=hl0;rw[hlenV]at hle hcur;have husz:(rt u).size=u.size:=Jo u;have hisz:i.size=(rt u).size:=by rw[his,hsu,husz]
 have hnle:Nat.min ys.length xs.length≤xs.length:=Nat.min_le_right _ _;have hnle2:Nat.min ys.length xs.length≤ys.length:=Nat.min_le_left _ _;generalize hnn:Nat.min ys.length xs.length=k0 at *;have hkm:k0*(rt u).size≤xs.length*(rt u).size:=QM _ hnle;have hkm2:k0*(rt u).size≤ys.length*(rt u).size:=QM _ hnle2;have hmc:xs.length*(rt u).size≤cap*(rt u).size:=QM _ hle;have hnl:(cs.take (k0*(rt u).size)).length=k0*(rt u).size:=by rw[List.length_take,hcl]; omega
 have hcsl:cap*(rt u).size≤cur.toList.length:=by simpa using hcs
 have hst:=Jpw (P:=P) (w:=w) (dT:=t) (sT:=t') (ty:=o.type) hu hi (dLen:=m) (dCap:=c) (sLen:=ys.length) (sCap:=c2) (a:=⟨b2,o2,none⟩) (cs:=cs.take (k0*(rt u).size)) hh hfz (by rw[hnl,hmx,hnn,hisz]) (fun j v hj=>by
   rw[Bl]
   grind) (by rw[hnl]; omega) (fun v hv=>hc1 v (ZT hv))
 refine J5 hw (Vi (w':=w.setRow g (cs.take (k0*(rt u).size)++cur.toList.drop (cs.take (k0*(rt u).size)).length).toArray) (v:=goInt (Qnb xs ys)) (by rw[hm2 _ hse',hst]; simp only[Qnb,hmx,hnn]; rfl) ?_);rw[hd];have hset:=setRow_heap w g cur (cs.take (k0*(rt u).size)++cur.toList.drop (cs.take (k0*(rt u).size)).length).toArray et _ hh
 have hsizeN:(cs.take (k0*(rt u).size)++cur.toList.drop (cs.take (k0*(rt u).size)).length).length=cur.toList.length:=by
  rw[List.length_append,List.length_drop,hnl]; omega
 have hlenC:(Pb xs ys).length=xs.length:=by
  grind [Pb,List.length_append,List.length_take,List.length_drop]
 have hys:Ga (rt u) (Jr X.ok X.w.heap.size (fun _=>0) [] (Qq β ρ S.flat.mem) w) w (ys.take k0) (cs.take (k0*(rt u).size)):=by
  have hall:Ga (rt u) (Jr X.ok X.w.heap.size (fun _=>0) [] (Qq β ρ S.flat.mem) w) w ys cs:=Qpn ys cs hcl hc4;grind [Q3k]
 have hS:=Sb.upd h (O1:=Qq β ρ l1) (O2:=Qq β ρ l2) (t:=ml (ρ id) et (rt u) xs) (t':=ml (ρ id) et (rt u) (Pb xs ys)) (w':=w.setRow g (cs.take (k0*(rt u).size)++cur.toList.drop (cs.take (k0*(rt u).size)).length).toArray) hO rfl rfl rfl (by simp)
  (fun b hb hn=>setRow_other _ _ _ _ fun e=>hn (by subst e; show(ρ id).ownBlock=_; rw[hρ]; rfl)) (fun b o hb=>hb) (fun g hg=>.inl hg) fun hevo hok=>by
   refine⟨by rw[hlenV,hlenC],_,⟨?_,.inr ⟨g,cap,_,fz,by rw[hρ,hcap]; rfl,QN _,hset,by rw[JD,hsizeN]; simpa using hfz,by rw[hlenV]; exact hle,hcm,by rw[JD,hsizeN]; exact hcsl,rfl⟩⟩,?_⟩
   ·rw[hlenV]
    grind
   ·rw[hlenV]
    show Ga (rt u) _ _ (Pb xs ys) (List.take (xs.length*(rt u).size) (cs.take (k0*(rt u).size)++cur.toList.drop (cs.take (k0*(rt u).size)).length))
    have e5:List.take (xs.length*(rt u).size) (cs.take (k0*(rt u).size)++cur.toList.drop (cs.take (k0*(rt u).size)).length)=cs.take (k0*(rt u).size)++(cs0.drop (k0*(rt u).size)):=by
     rw[XC,hnl,List.take_of_length_le (by rw[hnl]; exact hkm),←hcur,List.drop_take]
    rw[e5];have h6:=Qbv (Hh (Ig hys hevo) hok) (Hh (Ig (Q3j k0 hr0) hevo) hok);grind [Pb]
 exact hgo _ hS
end
end Gx

/- A key is taken out of a map; the beginning of a row of one's own. -/
namespace Gx
open Go Go.RowKit Gd
section
variable {P:Program} {T:Tab}
theorem Q66(hT:Jg P T){kt:TypeId}{te:TE}(ht:Qo T kt=some te){k:Ty}(h:V6 T k te.d=true)(key:k.De){ν:Type}{s:RT ν}{ok:Ok}{w:World}:∀{xs:List (k.De×ν)} {es:List MapEntry},Ri (rt k) s ok w xs es →
  (Qz key xs=none∧Rl key xs=xs) ∨
  (∃(j:Nat) (e:MapEntry),(∀i,(Instr.findAsking kt (Vt k key) es i).run P w=.ok (some (i+j,e.val)) w)∧es[j]?=some e∧Ri (rt k) s ok w (Rl key xs) (es.eraseIdx j))
 | [],es,hp=>.inl ⟨rfl,rfl⟩
 | x::xs,es,hp=>by
  obtain⟨e,es',rfl,h1,h2,h3⟩:=hp;have hk:=O9 (Uw h) h1;have heq:=Qnz hT ht h key x.1 w;simp only[Rl,Qz,Instr.findAsking,Sem.run_bind,hk,heq,Result.andThen_ok];cases he:eqK k key x.1 with
  | true=>exact .inr ⟨0,e,by simp,rfl,h3⟩
  | false =>
   rcases Q66 hT ht h key h3 with⟨q1,q2⟩ | ⟨j,e',q2,q3,q5⟩
   ·grind
   ·exact .inr ⟨j+1,e',fun i=>by rw[show i+(j+1)=i+1+j by omega]; grind,q3,⟨e,_,rfl,h1,h2,q5⟩⟩
theorem Jb8{k:Ty}{ν:Type}(key:k.De):∀{xs:List (k.De×ν)},(Rl key xs).Sublist xs
 | []=>List.Sublist.refl _
 | x::xs=>by
  simp only[Rl];cases eqK k key x.1 with
  | true=>grind
  | false=>exact(Jb8 key).cons_cons _
theorem Jik(hT:Jg P T){t kt et:TypeId}{te tk:TE}(ht:Qo T t=some te)(htd:te.d=.map kt et)(hk:Qo T kt=some tk)
  {k:Ty} {ν:Type} {s:RT ν} (hd:V6 T k tk.d=true) {ok:Ok} {w:World} {g:Nat} {es:Array MapEntry} {clock:Nat} (hg:w.heap[g]?=some (.map es clock)) {xs:List (k.De×ν)} (hp:Ri (rt k) s ok w xs es.toList) (hst:Qjb es clock) (key:k.De) (kt' ty:TypeId) :
  ∃es',(Builtin.delete_ #[t,kt'] ty #[.map (some g),Vt k key]).run P w=.ok (.tuple #[]) { w with heap:=w.heap.setIfInBounds g (.map es' clock) }∧Ri (rt k) s ok w (Rl key xs) es'.toList∧Qjb es' clock:=by
 have hu:=(J0 hT ht).2;rw[htd]at hu;rcases Qpu hT hk hd key w hp with⟨q1,q2⟩ | ⟨j,e,y,q1,q2,q3,q4,q5⟩
 ·refine⟨es,?_,?_,hst⟩
  ·simp[Builtin.delete_,run_underlying hu,MapKept.run_getObj_map hg,Cf hT hk hd,q2,MapKept.run_setObj_map _ hg,Result.andThen]
  grind [Q66,Qn0]
 ·rcases Q66 hT hk hd key hp with⟨r1,_⟩ | ⟨j',e',r1,r2,r3⟩
  ·rw[q1]at r1; cases r1
  ·have r4:=r1 0
   have:=Qn0 hT hk hd key w hp r4;rw[q2]at this;injection this with this
   simp only[Option.some.injEq,Prod.mk.injEq]at this;have hj:j=j':=by omega
   subst hj;have hlt:j<es.size:=by have:=(List.getElem?_eq_some_iff.1 q3).1; grind
   have hl:(es.eraseIdxIfInBounds j).toList=es.toList.eraseIdx j:=by
    unfold Array.eraseIdxIfInBounds;rw[dif_pos hlt,Array.toList_eraseIdx]
   refine⟨es.eraseIdxIfInBounds j,?_,by rw[hl]; exact r3,?_,fun e he=>?_⟩
   ·simp[Builtin.delete_,run_underlying hu,MapKept.run_getObj_map hg,Cf hT hk hd,q2,MapKept.run_setObj_map _ hg,Result.andThen]
   ·rw[hl]
    exact hst.1.sublist ((ZN _ _).map _)
   ·rw[hl]at he
    exact hst.2 e ((ZN _ _).subset he)
end
section
variable {P:Program} {Y:TX} {X:Cx} {S:XS} {β β':Nat→Nat} {ρ ρ':Nat→Value} {a a':Act} {w w':World} {n:Nat}
variable {ops:Array Oper} {Q:Exit→Act→World→Prop} {rest:List Oper} {R:Type} {k:XS→Option R} {r:R}
theorem Jt5(hT:Jg P Y.T)(h:Rel X β ρ S.flat a w){o:Oper}(hw:Region.wanted o (yielded ops a.tmps)=true){t t':TypeId}{m ky:Operand}(hop:o.op=.call ⟨.builtin .delete,⟨[m,ky]⟩,⟨[t,t']⟩⟩)(hd:o.dst=none){te tk:TE}{kt et:TypeId}(hte:Qo Y.T t=some te)(htd:te.d=.map kt et)(htk:Qo Y.T kt=some tk)
  {id:Nat} {kv:AV} {kk v:Ty} {xs:List (kk.De×v.De)} {key:kk.De} (hm:S.ev [] m=some (.m id)) (hkv:S.ev [] ky=some kv) (hmo:Qk S.mem id=some (.map kk v xs)) (hkey:asD [] kv kk=some key)
  (hdk:V6 Y.T kk tk.d=true) (hka:(kk.agg==kv.isAgg)=true)
  (hk:k (S.set id (.map kk v (Rl key xs)))=some r) (H:KOk P ops Q rest X S β ρ k r):wpList P ops Q (o::rest) a w:=by
 obtain⟨c1,h1,h2⟩:=h.ev (Qi a) hm;have h2':c1=[.map (some (β id))]:=h2;subst h2';have h1':a.eval m=.map (some (β id)):=h1;obtain⟨c3,h3,h4⟩:=h.ev (Qi a) hkv
 have hkr:isV (rt kk) (okR X β ρ S.flat.mem w) w key (a.eval ky):=by
  refine⟨c3,Gl (M:=[]) (β:=β) (ρ:=ρ) (by simp[Qk]) hkey h4,?_⟩;rw[h3]; simp only[AV.val,RT.val,Tq,bEq hka]; cases kv.isAgg<;>rfl
 have hke:=O9 (Uw hdk) hkr;have hm':Qk S.flat.mem id=some (.map kk v xs):=Jd hmo;obtain⟨⟨es,clock,hg,hp,hnd,hst1,hst2⟩,hmine⟩:=h.ob hm';obtain⟨es',hrun,hp',hst'⟩:=Jik hT hte htd htk hdk hg hp ⟨hst1,hst2⟩ key t' o.type
 have hrun':(execOp a.eval o).run P w=.ok (.value (.tuple #[])) { w with heap:=w.heap.setIfInBounds (β id) (.map es' clock) }:=by
  unfold execOp;have hmm:(Array.mk [m,ky]).map a.eval=⟨[.map (some (β id)),Vt kk key]⟩:=by simp[h1',hke]
  simp only[hop,resolve,hmm,invoke,builtin];simp[hrun]
 refine J5 hw (Vi hrun' ?_);rw[hd];have hO':=J8 hm';obtain⟨l1,l2,e1,e2,e3⟩:=hO';have hO:Qq β ρ S.flat.mem=Qq β ρ l1++Jb β ρ id (.map kk v xs)::Qq β ρ l2:=by rw[e1]; simp[Qq]
 have hS:=h.upd hO (t':=Jb β ρ id (.map kk v (Rl key xs))) (w':={ w with heap:=w.heap.setIfInBounds (β id) (.map es' clock) }) rfl rfl rfl (by simp) (fun b hb hn=>(MapKept.heap_set hg).2 b fun e=>hn e) (fun b o hb=>hb) (fun g hg=>.inl hg) (fun hevo hok=>by
  refine⟨es',clock,(MapKept.heap_set hg).1,?_,hnd.sublist ((Jb8 key).map _),hst'.1,hst'.2⟩
  exact Fv (Qd2 hp' hevo) hok)
 have hE:(S.set id (.map kk v (Rl key xs))).flat=⟨S.flat.env,Qps S.flat.mem id (.map kk v (Rl key xs))⟩:=by
  grind [XS.flat,XS.set,Dk]
 refine H β ρ _ _ _ hk ⟨rfl,rfl,rfl,agP.refl _ _ _⟩ ?_;rw[hE,e2];have hmem:Qq β ρ (l1++(id,Ob.map kk v (Rl key xs))::l2)=Qq β ρ l1++Jb β ρ id (.map kk v (Rl key xs))::Qq β ρ l2:=by simp[Qq]
 exact Rel.ofSb hS hmem.symm fun e he=>by
  have:=Yq.1 hS.dat _ (QK.2 ⟨e,he,rfl⟩);rw[←hmem]at this;exact this
theorem Jt6(hT:Jg P Y.T)(hX:X.n=n)(hr:X.res=[])(h:Rel X β ρ S.flat a w){o:Oper}(hw:Region.wanted o (yielded ops a.tmps)=true){d:Nat}(hd:o.dst=some d)(hwd:okW n S d=true){id:Nat}
  (hb:okB ⟨S.env,S.fix,Ya S.mem id,S.fixM,S.prot⟩ d=true) {t:TypeId} {x:Operand} {hi mx:Option Operand} (hop:o.op=.slice t x none hi mx) {te ee:TE} {e:TypeId} (hte:Qo Y.T t=some te) (htd:te.d=.slice e) (he:Qo Y.T e=some ee) {u:Ty} (hsz:Nat.beq ee.size u.size=true)
  {xs ys:List u.De} (hx:S.ev [] x=some (.s id)) (hm:Qk S.mem id=some (.row e u xs)) {q:Int} (hq:bnd S.flat [] xs.length hi=some q) (hys:slc xs 0 q=some ys)
  (hmx:mx=none∨∃hv mv k1 k2 m,hi=some hv∧mx=some mv∧a.eval hv=.int k1 q∧a.eval mv=.int k2 m∧q≤m∧m≤(xs.length:Int))
  (hk:k (({ S with mem:=Ya S.mem id }.born d (.row e u ys)).put d [] (.s d))=some r) (H:KOk P ops Q rest X S β ρ k r):wpList P ops Q (o::rest) a w:=by
 obtain⟨f1,f2,f3⟩:=Ch hb;obtain⟨h1,h2⟩:=Ue hwd hX hr;have hg:=T2 h hw;obtain⟨c1,hse,⟨v0,hs2,hz0⟩,A,m,c,hρ⟩:=h.ev (Qi a) hx;subst hs2;have hm':Qk S.flat.mem id=some (.row e u xs):=Jd hm;have e4':Ya S.mem id++S.fixM=Ya S.flat.mem id:=(Ge hm).symm;obtain⟨h0,hq1,hq2,hys',hyl⟩:=slc_ok hys;have hysT:ys=xs.take q.toNat:=by rw[hys']; simp
 have hun:(underlying t).run P w=.ok (.slice e) w:=by rw[J7 hT w hte,htd]
 obtain⟨⟨hl0,cs0,hown0,hr0⟩,hmine⟩:=h.ob hm';have hsz':=Nat.eq_of_beq_eq_true hsz
 have hgo:∀(A':Option Addr) (c':Nat),a.eval x=.slice A' xs.length c'→xs.length≤c'→(c'≠0→∀ad,A'=some ad→ad.add 0=ad)→∃c2,ys.length≤c2∧c2≤c'∧(execOp a.eval o).run P w=.ok (.value (.slice A' ys.length c2)) w:=by
  intro A' c' hv hcc hadd
  obtain⟨c2,hc2,hc3,hbn⟩:∃c2,ys.length≤c2∧c2≤c'∧(Instr.sliceBounds true xs.length c' none (hi.map a.eval) (mx.map a.eval)).run P w=.ok (0,q.toNat,c2) w:=by
   rcases hmx with rfl | ⟨hv',mv,k1,k2,m,rfl,rfl,e1,e2,e3,e5⟩
   ·exact⟨c',by omega,QY _,Qb0 (P:=P) (w:=w) (isS:=true) (lo:=none) (len:=xs.length) (cap:=c') (.inl ⟨rfl,rfl⟩) (h.toW.bnd (Qi a) hq) (XO 0) hq1 (by omega) hcc⟩
   ·exact⟨m.toNat,by omega,by omega,Qt0 (P:=P) (w:=w) (lo:=none) (len:=xs.length) (cap:=c') (.inl ⟨rfl,rfl⟩) e1 e2 (XO 0) hq1 e3 (by omega)⟩
  refine⟨c2,hc2,hc3,?_⟩
  have hA':(if c2=0 then A' else A'.map (·.add (0*u.size)))=A':=by
   split
   ·rfl
   ·rename_i hc0
    cases A' with
    | none=>rfl
    | some ad=>rw[ZQ]; grind
  have hlen:q.toNat - 0=ys.length:=by omega
  unfold execOp;rw[hop];simp only[hv];simp[Instr.sliceAt,hun,Instr.slice,hbn,Yn hT w he,hsz',hlen];simpa using hA'
 rcases hz0 with hz0 | ⟨h00,A0,hz0⟩
 case inr =>
  have hse':a.eval x=.slice A0 0 0:=by rw[hse,←hz0]; rfl
  have hxs:xs=[]:=by
   rw[h00]at hl0;exact List.length_eq_zero_iff.1 hl0.symm
  subst hxs;have hy0:ys=[]:=by rw[hysT]; simp
  subst hy0;obtain⟨c2,_,hc3,hrun⟩:=hgo A0 0 hse' (QY _) (fun h=>absurd rfl h);have hc0:c2=0:=by omega
  subst hc0;refine J5 hw (Vi hrun ?_);rw[hd];have hS:=(h.dropM hm').toG.put h1 (.v (.slice A0 0 0));rw[←e4']at hS;exact H β (upd ρ d (.slice none 0 0)) _ _ _ hk ⟨rfl,rfl,rfl,Fz f3 (Yg d β ρ _)⟩ (Qx9 (S:={ S with mem:=Ya S.mem id }) hX hr h.sz hwd f1 f2 f3 hS)
 have hse':a.eval x=.slice A m c:=by rw[hse,←hρ,←hz0]; rfl
 have hmx:m=xs.length:=by rw[hρ]at hl0; exact hl0
 subst hmx;have hlenV:Gj (ρ id)=xs.length:=by rw[hρ]; rfl
 rw[hlenV,hρ]at hown0
 have hcap:xs.length≤c∧(c≠0→∀ad,A=some ad→ad.add 0=ad):=by
  rcases hown0.2 with⟨hv,h0⟩ | ⟨g,cap,cur,fz,hv,_,_,_,hle,_⟩
  ·grind
  grind [Bl]
 obtain⟨c2,hc2,hc3,hrun⟩:=hgo A c hse' hcap.1 hcap.2;refine J5 hw (Vi hrun ?_);rw[hd];obtain⟨l1,l2,e1,_,e3⟩:=J8 hm';have hO:Qq β ρ S.flat.mem=Qq β ρ l1++ml (.slice A xs.length c) e (rt u) xs::Qq β ρ l2:=by rw[e1]; simp[Qq,Jb,hρ]
 have hyx:ys.length≤xs.length:=by omega
 have hmul:ys.length*(rt u).size≤xs.length*(rt u).size:=QM _ hyx;have hcsl:cs0.length=xs.length*(rt u).size:=hown0.1
 have hrep:Ga (rt u) (okR X β ρ S.flat.mem w) w ys (cs0.take (ys.length*(rt u).size)):=by
  refine Qpn ys _ (by rw[List.length_take]; omega) fun i y hy=>?_;have hiy:=(List.getElem?_eq_some_iff.1 hy).1;rw[hysT,JK]at hy;split at hy
  ·refine⟨_,Ih hr0 hy,fun j v hj=>?_⟩
   rw[JK]at hj;split at hj
   ·rename_i hjs
    rw[JV]at hj;rw[JK,if_pos ?_]
    ·exact hj
    ·have:(i+1)*(rt u).size≤ys.length*(rt u).size:=QM _ hiy
     rw[Nat.add_mul,KU]at this;omega
   ·cases hj
  ·cases hy
 have hown:w.ownsRowS 0 e (rt u).size (.slice A ys.length c2) ys.length (cs0.take (ys.length*(rt u).size)):=by
  refine⟨by rw[List.length_take]; omega,?_⟩;rcases hown0.2 with⟨hv,h0⟩ | ⟨g,cap,cur,fz,hv,hb0,hh,hfz,hle,hcm,hcs,hcur⟩
  ·grind
  ·injection hv with q1 q2 q3
   refine .inr ⟨g,c2,cur,fz,by rw[q1],hb0,hh,hfz,by omega,by omega,Nat.le_trans (QM _ (by omega)) hcs,?_⟩;rw[←hcur,XF,Nat.min_eq_left hmul]
 have hS0:=h.toG.upd hO (t':=ml (.slice A ys.length c2) e (rt u) ys) (w':=w) rfl rfl rfl (QY _) (fun _ _ _=>rfl) (fun b o hb=>hb) (fun g hg=>.inl (by
  have hg':(Value.slice A ys.length c2).ownBlock=some g:=hg
  rw[Ie A ys.length xs.length c2 c]at hg'; exact hg')) (fun hevo hok=>⟨rfl,_,hown,Hh hrep hok⟩)
 have hS:=hS0.put h1 (.v (.slice A ys.length c2));refine H β (upd ρ d (.slice A ys.length c2)) _ _ _ hk ⟨rfl,rfl,rfl,Fz f3 (Yg d β ρ _)⟩ ?_;have e4:Ya S.mem id++S.fixM=l1++l2:=by rw[←Ge hm]; exact e3
 have hS':=hS.perm (O':=ml (.slice A ys.length c2) e (rt u) ys::Qq β ρ (Ya S.mem id++S.fixM)) (by rw[e4]; simp[Qq,QC,List.perm_middle]);exact Xi (S:={ S with mem:=Ya S.mem id }) (o:=.row e u ys) hX hr h.sz hwd f1 f2 f3 hS' (by grind [Jb,Jm,Fx.refl]) ⟨_,_,_,rfl⟩
theorem Jli(h:Rel X β ρ S.flat a w):∀{ps:List (Nat×Operand)} {vs:List (Nat×AV)} {c:AV} {j:Nat},Vz S.flat [] ps=some vs→Jpf vs j=some c →
  ∃us:List Value,ps.map (fun p=>(p.1,a.eval p.2))=(List.range' j us.length).zip us∧us.length=vs.length∧(∀v∈us,Q4 v=[v])∧cr β ρ (okR X β ρ S.flat.mem w) w false c us
 | [],vs,c,j,he,hx=>by
  simp[Vz]at he; subst he;simp[Jpf]at hx; subst hx;exact⟨[],rfl,rfl,by simp,rfl⟩
 | (i,x)::ps,vs,c,j,he,hx=>by
  simp only[Vz]at he;split at he
  ·rename_i v l hv hl
   simp at he; subst he;simp only[Jpf]at hx;obtain⟨hb,hx⟩:=bvT hx;simp only[QQ]at hb;have:=Nat.eq_of_beq_eq_true hb.1;subst this;split at hx
   ·rename_i r hr
    simp at hx; subst hx;obtain⟨us,q1,q2,q3,q4⟩:=Jli h (ps:=ps) hl hr;obtain⟨cs,p1,p2⟩:=h.ev (Qi a) hv
    have hone:∃q,a.eval x=.pointer q∧cr β ρ (okR X β ρ S.flat.mem w) w false v [.pointer q]:=by
     cases v with
     | np =>
      have p2':cs=_:=p2;subst p2';exact⟨_,p1,rfl⟩
     | p id path =>
      have p2':cs=_:=p2;subst p2';exact⟨_,p1,rfl⟩
     | _=>cases hb.2
    obtain⟨q,e1,e2⟩:=hone;refine⟨a.eval x::us,?_,by simp[q2],fun u hu=>?_,?_⟩
    ·grind [List.length_cons,List.range'_succ,List.zip_cons_cons]
    ·rcases QX.1 hu with rfl | hu
     ·rw[e1]; rfl
     ·exact q3 u hu
    ·exact⟨[.pointer q],us,by rw[e1]; rfl,e2,q4⟩
   ·cases hx
  ·cases he
theorem Qyb:∀{us:List Value},(∀v∈us,Q4 v=[v])→us.flatMap Q4=us
 | [],_=>rfl
 | v::us,h=>by
  rw[JI,h v (.head _),Qyb fun u hu=>h u (.tail _ hu)]; rfl
theorem Jt7(hT:Jg P Y.T)(hX:X.n=n)(hr:X.res=[])(h:Rel X β ρ S.flat a w){o:Oper}(hw:Region.wanted o (yielded ops a.tmps)=true){d:Nat}(hd:o.dst=some d)(hwd:okW n S d=true)(hb:okB S d=true)
  {t:TypeId} {m:Nat} {ps:List (Nat×Operand)} (hop:o.op=.buildSlice t (m+1) ⟨ps⟩) {te ee:TE} {e:TypeId} (hte:Qo Y.T t=some te) (htd:te.d=.slice e) (he:Qo Y.T e=some ee)
  {vs:List (Nat×AV)} {c:AV} (hvs:Vz S.flat [] ps=some vs) (hpl:Jpf vs 0=some c) (hnd:Km d c=true) (hl:Nat.beq vs.length (m+1)=true) (hsz:Nat.beq ee.size 1=true) (hzl:Nat.beq (Q4 ee.z).length 1=true) (hsm:Nat.ble (m+1) 16777216=true)
  (hk:k ((S.born d (.var e (.ag c))).put d [] (.w d 0 ((m+1:Nat):Int)))=some r) (H:KOk P ops Q rest X S β ρ k r):wpList P ops Q (o::rest) a w:=by
 obtain⟨us,q1,q2,q3,q4⟩:=Jli h hvs hpl;have hes:=Nat.eq_of_beq_eq_true hsz;have hul:us.length=m+1:=q2.trans (Nat.eq_of_beq_eq_true hl);have hzl':=Nat.eq_of_beq_eq_true hzl;have hz0:(Kj (Q4 ee.z) ((m+1)*ee.size)).length=(m+1)*ee.size:=by simp[Kj]
 have hfill:=Jbr us 0 (Kj (Q4 ee.z) ((m+1)*ee.size)) (s:=ee.size) (fun v hv=>by rw[q3 v hv,hes]; rfl) (by rw[hz0,QW,hul]; grind);rw[←q1]at hfill
 have hfill':Qbt (Qi2 ee.size) (Kj (Q4 ee.z) ((m+1)*ee.size)) (ps.map (fun p=>(p.1,a.eval p.2)))=some us:=by
  rw[hfill];simp only[ZQ,ZJ,QE,QW];rw[JM (by rw[hz0,hul]; grind),QH,Qyb q3]
 have hrun:(execOp a.eval o).run P w=.ok (.value (.slice (some ⟨w.heap.size,0,none⟩) (m+1) (m+1))) (w.alloc (.cells us.toArray e)):=by
  have hm:(Array.mk ps).map (fun(x:Nat×Operand)=>(x.1,a.eval x.2))=⟨ps.map (fun p=>(p.1,a.eval p.2))⟩:=by simp
  have hun:(underlying t).run P w=.ok (.slice e) w:=by rw[J7 hT w hte,htd]
  have h16:¬ (m+1)*ee.size>16777216:=by have:=QV hsm; rw[hes]; omega
  have hf:Instr.fill (fun i=>some (i*ee.size,ee.size)) (Kj (Q4 ee.z) ((m+1)*ee.size)).toArray (ps.map (fun p=>(p.1,a.eval p.2)))=some us.toArray:=Qd0 _ hfill'
  have hzz:(Array.range ((m+1)*ee.size)).map (fun x=>ee.z.cells[x % ee.z.cells.size]!)=(Kj (Q4 ee.z) ((m+1)*ee.size)).toArray:=by
   rw[Uk];unfold Kj;apply Array.ext
   ·simp
   grind [Uk,Nat.mod_lt]
  unfold execOp;rw[hop];simp only[Instr.buildSlice,Sem.run_bind,hun,Yn hT w he,Result.andThen_ok,hm];have h00:m+1≠0:=by omega
  have h01:ee.size≠0:=by omega
  have h02:¬ (m+1)*ee.size=0:=by rw[hes]; omega
  generalize hM:m+1=M at *;simp[h16,h00,h01,Ze hT w he,hzz,hf,newRow];grind
 exact Jt0 (x:=.w d 0 ((m+1:Nat):Int)) (cv:=fun g=>[.slice (some ⟨g,0,none⟩) (m+1) (m+1)]) hX hr h hw hd hwd hb hrun (c:=.ag c) q4 hnd (fun β ρ ok w=>⟨_,_,rfl,fun _=>rfl⟩) hk H
theorem Jb9(hT:Jg P Y.T){β:Nat→Nat}{G:GL}{D:List DF}{O:List TL}(h:Sb β X G D [] O a w){t:TypeId}{len:Nat}{parts:List (Nat×Operand)}{d:Nat}{ps:String}{af:Array Edge}{ty:TypeId}{gd:Option (Nat×Bool)}
  (hg:Nu ops G ⟨some d,.buildSlice t len ⟨parts⟩,ty,ps,af,gd⟩=some true) (hlt:okD X d=true)
  {τ:Type} {r:RT τ} {xs:List τ} {vs:List Value} {pvs:List (Nat×Value)} (hpv:evParts G parts=some pvs)
  {e:TypeId} {te ee:TE} (ht:Qo Y.T t=some te) (htd:te.d=.slice e) (he:Qo Y.T e=some ee) (hs:ee.size=r.size) (hxl:xs.length=len)
  (hsm:Nat.ble (len*ee.size) 16777216=true) (hps:Nat.ble 1 ee.size=true) (hl1:1≤len) (hz:Nat.beq (Q4 ee.z).length ee.size=true)
  (hfill:Qbt (Qi2 ee.size) (Kj (Q4 ee.z) (len*ee.size)) pvs=some (vs.flatMap Q4))
  (hv:Q1c r (Jr X.ok X.w.heap.size β [] O w) w xs vs)
  (hk:∀b a' w',Sb β X (Qfp G d (.v (.slice (some ⟨b,0,none⟩) xs.length len))) D [] (ml (.slice (some ⟨b,0,none⟩) xs.length len) e r xs::O) a' w'→wpList P ops Q rest a' w') :
  wpList P ops Q (⟨some d,.buildSlice t len ⟨parts⟩,ty,ps,af,gd⟩::rest) a w:=by
 have hps1:=QV hps;have hsm1:=QV hsm
 have hrun:(execOp a.eval ⟨some d,.buildSlice t len ⟨parts⟩,ty,ps,af,gd⟩).run P w=.ok (.value (.slice (some ⟨w.heap.size,0,none⟩) xs.length len)) (w.alloc (.cells (vs.flatMap Q4).toArray e)):=by
  have hev:=Qnw h hpv;have hm:(Array.mk parts).map (fun(x:Nat×Operand)=>(x.1,a.eval x.2))=⟨pvs⟩:=by rw[←hev]; simp
  have hun:(underlying t).run P w=.ok (.slice e) w:=by rw[J7 hT w ht,htd]
  have h16:¬ len*ee.size>16777216:=by omega
  have hzl:=Nat.eq_of_beq_eq_true hz;have hf:Instr.fill (fun i=>some (i*ee.size,ee.size)) (Kj (Q4 ee.z) (len*ee.size)).toArray pvs=some (vs.flatMap Q4).toArray:=Qd0 _ hfill
  have hzz:(Array.range (len*ee.size)).map (fun x=>ee.z.cells[x % ee.z.cells.size]!)=(Kj (Q4 ee.z) (len*ee.size)).toArray:=by
   rw[Uk];grind [Kj,Array.ext,Uk,Nat.mod_lt]
  unfold execOp;simp only[Instr.buildSlice,Sem.run_bind,hun,Yn hT w he,Result.andThen_ok,hm];have h00:len≠0:=by omega
  have h01:ee.size≠0:=by omega
  have h0:¬ len*ee.size=0:=fun e=>by
   rcases Nat.mul_eq_zero.1 e with e | e<;>omega
  simp[h16,h00,h01,Ze hT w he,hzz,hf,newRow,hxl];grind
 refine J5 (Wm h hg) (Vi hrun ?_);have hb:Below w.heap.size w (w.alloc (.cells (vs.flatMap Q4).toArray e)):=(Below.refl _ _).alloc (QY _) _;have hevo:Evo (Jr X.ok X.w.heap.size β [] O w) w (w.alloc (.cells (vs.flatMap Q4).toArray e)):=(Evo.of_below hb).mono fun b o hk=>hk.2.1;obtain⟨hl2,hl3⟩:=Ja5 hv;have hlen:len≤len*ee.size:=XU len hps1;refine hk _ _ _ ((h.allocTL hb (t:=ml (.slice (some ⟨w.heap.size,0,none⟩) xs.length len) e r xs) (fun g hg=>?_) ⟨rfl,vs.flatMap Q4,⟨?_,.inr ⟨w.heap.size,len,_,(0,0),rfl,QN _,heap_alloc_new w _,.inl rfl,?_,?_,?_,?_⟩⟩,?_⟩).put hlt (.v _))
 ·have hg:some w.heap.size=some g:=hg
  grind
 ·grind [Gj]
 ·grind [Gj]
 ·rw[Nx]; omega
 ·grind
 ·grind [Gj,List.take_length]
 ·refine Hh (Ig (Qxl hv) hevo) fun b o hk=>?_
  obtain⟨h1,h2,h3,h4⟩:=hk;refine⟨h1,QI h2 hb.size,h3,fun u hu hc=>?_⟩;rcases QX.1 hu with rfl | hu
  ·have hc':some w.heap.size=some b:=hc
   grind
  ·exact h4 u hu hc
theorem Vb{d:TypeDesc}{e:TypeId}(h:Vj d=some e):d=.slice e:=by
 cases d<;>simp[Vj]at h;subst h; rfl
end
end Gx

/- A region, operation by operation. -/
namespace Gx
open Go Go.RowKit Gd
section
variable {P:Program} {Y:TX} {X:Cx} {S:XS} {β β':Nat→Nat} {ρ ρ':Nat→Value} {a a':Act} {w w':World} {n:Nat}
variable {ops:Array Oper} {Q:Exit→Act→World→Prop} {rest:List Oper} {R:Type} {k:XS→Option R} {r:R}
theorem Q3l(hT:Jg P Y.T)(hX:X.n=n)(hr:X.res=[])(h:Rel X β ρ S.flat a w){o:Oper}(hw:Region.wanted o (yielded ops a.tmps)=true)(hs:Qn6 Y n o S k=some r)(H:KOk P ops Q rest X S β ρ k r) :
  wpList P ops Q (o::rest) a w:=by
 unfold Qn6 at hs;split at hs
 ·
  rename_i t d hop hd;split at hs
  ·rename_i e ty he hty
   split at hs
   ·rename_i c hc
    obtain⟨hb,hk⟩:=bvT hs;simp only[QQ]at hb;refine J1w (cs:=Q4 e.z) hX hr h hw hd hb.1.1.1 hb.1.1.2 ?_ (Ti hc) hb.2 hk H;unfold execOp;simp only[hop];simp[Instr.alloc,Ze hT w he,newVar,newRow,Uk]
   ·cases hs
  ·cases hs
 ·
  rename_i t x d hop hd;split at hs
  ·rename_i c hc
   obtain⟨hb,hk⟩:=bvT hs;simp only[QQ]at hb;obtain⟨cs,h1,h2⟩:=h.ev (Qi a) hc;refine J1w (cs:=cs) hX hr h hw hd hb.1.1.1.1 hb.1.1.1.2 ?_ h2 hb.2 hk H;have hcl:=Qbw h2 hb.1.1.2 hb.1.2
   have hcc:(c.val cs).cells=cs.toArray:=by
    grind [Array.ext',Uk]
   simp_all [execOp,Instr.box,newVar,newRow]
  ·cases hs
 ·
  rename_i t p x hop hd;split at hs
  ·rename_i e id path v he hp hx
   split at hs
   ·rename_i tid c hm
    split at hs
    ·rename_i c' hc'
     obtain⟨hb,hk⟩:=bvT hs;simp only[QQ]at hb;exact Jle hT h hw hop hd he hp hx hm (fun _ h1 h2=>Qfw h1 hc' h2) hb.1.1 hb.1.2 hb.2 hk H
    ·cases hs
   ·cases hs
  ·rename_i e id j sz ps v he hp hx
   split at hs
   ·rename_i et u xs hm
    obtain⟨y,hy,hs⟩:=Y0 hs;split at hs
    ·rename_i c hc
     split at hs
     ·rename_i z0 hz
      obtain⟨hb,hk⟩:=bvT hs;simp only[QQ]at hb;grind [Jpq]
     ·cases hs
    ·cases hs
   ·cases hs
  ·cases hs
 ·
  rename_i t rs d hop hd;split at hs
  ·rename_i te hte
   split at hs
   ·rename_i kt et htd
    split at hs
    ·rename_i kk v hkk hv
     obtain⟨hb,hk⟩:=bvT hs;simp only[QQ]at hb
     have hrs:rs=none:=by
      cases rs with
      | none=>rfl
      | some x=>simp[isNone]at hb
     grind [Jpp]
    ·cases hs
   ·cases hs
  ·cases hs
 ·
  rename_i t m ky x hop hd;split at hs
  ·rename_i te id kv xv hte hm hkv hx
   split at hs
   ·rename_i kt et kk v xs htd hmo
    split at hs
    ·rename_i tk key y htk hkey hy
     obtain⟨hb,hk⟩:=bvT hs;simp only[QQ]at hb;exact Jb1 hT h hw hop hd hte htd htk hm hkv hx hmo hkey hy hb.1.1 hb.1.2 hb.2 hk H
    ·cases hs
   ·cases hs
  ·cases hs
 ·
  rename_i t l c d hop hd;split at hs
  ·rename_i te lv cv hte hl hc
   split at hs
   ·rename_i e k1 nl k2 nc hse hli hci
    split at hs
    ·rename_i ee u he hu
     split at hs
     ·rename_i za hza
      split at hs
      ·rename_i z0 hz
       obtain⟨hb,hs⟩:=bvT hs;simp only[QQ]at hb;obtain⟨zs,hzs,hk⟩:=Y0 hs;exact J56 hT hX hr h hw hd hb.1.1.1.1 hb.1.1.1.2 hop hte (Vb hse) he hl hc hli hci hza hz hb.1.1.2 hb.1.2 hb.2 hzs hk H
      ·cases hs
     ·cases hs
    ·cases hs
   ·cases hs
  ·cases hs
 ·
  rename_i t len parts d hop hd;split at hs
  ·rename_i te hte
   split at hs
   ·rename_i e hse
    split at hs
    ·rename_i ee u he hu
     obtain⟨hb,hs⟩:=bvT hs;simp only[QQ]at hb;split at hs
     ·obtain⟨hb2,hk⟩:=bvT hs
      exact J57 hT hX hr h hw hd hb.1 hb2 hop hte (Vb hse) he hb.2 hk H
     ·cases hs
     ·rename_i m
      split at hs
      ·rename_i vs hvs
       split at hs
       ·rename_i xs hxs
        obtain⟨hb2,hk⟩:=bvT hs;simp only[QQ]at hb2;exact J72 hT hX hr h hw hd hb.1 hop hte (Vb hse) he hb.2 hvs hxs hb2.1.1.1 hb2.1.1.2 hb2.1.2 hb2.2 hk H
       ·cases hs
      ·cases hs
    ·cases hs
   ·cases hs
  ·cases hs
 ·
  rename_i s x t t' d hop hd;split at hs
  ·rename_i te sv xv hte hsv hxv
   split at hs
   ·rename_i e hse
    split at hs
    ·rename_i ee he
     have hb:=(bvT hs).1;replace hs:=(bvT hs).2;simp only[QQ]at hb;obtain⟨⟨⟨⟨b1,b2⟩,b3⟩,b4⟩,b5⟩:=hb;have ett:=Nat.eq_of_beq_eq_true b2;subst ett;split at hs
     ·split at hs
      ·rename_i u hu
       split at hs
       ·rename_i ys hys
        have hb2:=(bvT hs).1;replace hs:=(bvT hs).2;simp only[QQ]at hb2;obtain⟨zs,hzs,hk⟩:=Y0 hs;exact Jt3 hT hX hr h hw hd b1 hb2.1 hop hte (Vb hse) he hb2.2 b3 b4 b5 hsv hxv hys hzs hk H
       ·cases hs
      ·cases hs
     ·split at hs
      ·rename_i u hu
       split at hs
       ·rename_i ys hys
        have hb2:=(bvT hs).1;replace hs:=(bvT hs).2;simp only[QQ]at hb2;obtain⟨zs,hzs,hk⟩:=Y0 hs;exact J58 hT hX hr h hw hd b1 hb2.1 hop hte (Vb hse) he hb2.2 b3 b4 b5 hsv hxv hys hzs hk H
       ·cases hs
      ·cases hs
     ·rename_i id
      split at hs
      ·rename_i e' u xs hm
       split at hs
       ·rename_i ys hys
        have hb2:=(bvT hs).1;replace hs:=(bvT hs).2;simp only[QQ]at hb2;have ee':=Nat.eq_of_beq_eq_true hb2.2;subst ee';obtain⟨zs,hzs,hk⟩:=Y0 hs;exact Jt4 hT hX hr h hw hd b1 hb2.1.1 hop hte (Vb hse) he hb2.1.2 b3 b4 b5 hsv hxv hm hys hzs hk H
       ·cases hs
      ·rename_i e' u xs hm
       split at hs
       ·rename_i ys hys
        have hb2:=(bvT hs).1;replace hs:=(bvT hs).2;simp only[QQ]at hb2;have ee':=Nat.eq_of_beq_eq_true hb2.2;subst ee';obtain⟨zs,hzs,hk⟩:=Y0 hs;exact Jpr hT hX hr h hw hd b1 hb2.1.1 hop hte (Vb hse) he hb2.1.2 b3 b4 b5 hsv hxv hm hys hzs hk H
       ·cases hs
      ·cases hs
     ·cases hs
    ·cases hs
   ·cases hs
  ·cases hs
 ·
  obtain⟨hb,hs⟩:=bvT hs;obtain⟨av,hk,hsem⟩:=Jbu (P:=P) hT rfl hs;grind [Jtz]
 ·cases hs
theorem Jt8(hT:Jg P Y.T)(hX:X.n=n)(hr:X.res=[])(h:Rel X β ρ S.flat a w){o:Oper}(hw:Region.wanted o (yielded ops a.tmps)=true)(hs:Q29 Y n o S k=some r)(H:KOk P ops Q rest X S β ρ k r) :
  wpList P ops Q (o::rest) a w:=by
 unfold Q29 at hs;split at hs
 ·
  rename_i s x t t' d hop hd;split at hs
  ·rename_i te te' sv l hte hte' hsv hxv
   split at hs
   ·rename_i e hse
    split at hs
    ·rename_i ee he
     obtain⟨hb,hs⟩:=bvT hs;simp only[QQ]at hb;obtain⟨⟨⟨⟨b1,b2⟩,b3⟩,b4⟩,b5⟩:=hb;have b2:=Jps b2;have b3:=Jz1 b3;have b4:=Nat.eq_of_beq_eq_true b4;have b5:=Nat.eq_of_beq_eq_true b5;split at hs
     ·obtain⟨hb2,hs⟩:=bvT hs
      obtain⟨zs,hzs,hk⟩:=Y0 hs;exact Jpu hT hX hr h hw hd b1 hb2 hop hte (Vb hse) hte' b2 he b3 b4 b5 hsv hxv hzs hk H
     ·rename_i id
      split at hs
      ·rename_i e' xs hm
       obtain⟨hb2,hs2⟩:=bvT hs;simp only[QQ]at hb2;have ee':=Nat.eq_of_beq_eq_true hb2.2;subst ee';obtain⟨zs,hzs,hk⟩:=Y0 hs2;exact Jpt hT hX hr h hw hd b1 hb2.1 hop hte (Vb hse) hte' b2 he b3 b4 b5 hsv hxv hm hzs hk H
      ·cases hs
     ·cases hs
    ·cases hs
   ·cases hs
  ·cases hs
 ·
  rename_i s t x d hop hd;split at hs
  ·rename_i se te l hse hte hx
   split at hs
   ·rename_i e hsd
    split at hs
    ·rename_i ee he
     obtain⟨hb,hs⟩:=bvT hs;simp only[QQ]at hb;obtain⟨zs,hzs,hk⟩:=Y0 hs;exact Jij hT hX hr h hw hd hb.1.1 hb.1.2 hop hse hte (Vb hsd) he (Jz2 hb.2) hx hzs hk H
    ·cases hs
   ·cases hs
  ·cases hs
 ·
  rename_i t p x hop hd;split at hs
  ·rename_i e id path v he hp hx
   split at hs
   ·rename_i tid c hm
    obtain⟨c',hc',hset⟩:=Q6v hs;obtain⟨hb,hk⟩:=bvT hc';simp only[QQ]at hb;grind [Jle]
   ·cases hs
  ·cases hs
 ·
  rename_i dst src t t' d hop hd;split at hs
  ·rename_i te id xv hte hdv hsv
   split at hs
   ·rename_i e hse
    split at hs
    ·rename_i ee et u xs he hm
     split at hs
     ·rename_i ys hys
      obtain⟨hb,hk⟩:=bvT hs;simp only[QQ]at hb;exact J59 hT hX hr h hw hd hb.1.1 hop hte (Vb hse) he hdv hsv hm hys hb.1.2 hb.2 hk H
     ·cases hs
    ·cases hs
   ·cases hs
  ·cases hs
 ·
  rename_i m ky t t' hop hd;split at hs
  ·rename_i te id kv hte hm hkv
   split at hs
   ·rename_i kt et kk v xs htd hmo
    split at hs
    ·rename_i tk key htk hkey
     obtain⟨hb,hk⟩:=bvT hs;simp only[QQ]at hb;grind [Jt5]
    ·cases hs
   ·cases hs
  ·cases hs
 ·
  rename_i t m ps d hop hd;split at hs
  ·rename_i te hte
   split at hs
   ·rename_i e hse
    split at hs
    ·rename_i ee vs he hvs
     split at hs
     ·rename_i c hpl
      obtain⟨hb,hk⟩:=bvT hs;simp only[QQ]at hb;obtain⟨⟨⟨⟨⟨⟨b1,b2⟩,b3⟩,b4⟩,b5⟩,b6⟩,b7⟩:=hb;exact Jt7 hT hX hr h hw hd b1 b2 hop hte (Vb hse) he hvs hpl b3 b4 b5 b6 b7 hk H
     ·cases hs
    ·cases hs
   ·cases hs
  ·cases hs
 ·
  rename_i t x hi d hop hd;split at hs
  ·rename_i te id hte hx
   split at hs
   ·rename_i e e' u xs hse hm
    split at hs
    ·rename_i ee q he hq
     obtain⟨hb,hs2⟩:=bvT hs;simp only[QQ]at hb;have ee':=Nat.eq_of_beq_eq_true hb.2;subst ee';obtain⟨ys,hys,hk⟩:=Y0 hs2;exact Jt6 hT hX hr h hw hd hb.1.1.1 hb.1.1.2 hop hte (Vb hse) he hb.1.2 hx hm hq hys (.inl rfl) hk H
    ·cases hs
   ·cases hs
  ·cases hs
 ·
  rename_i t x hi mx d hop hd;split at hs
  ·rename_i te id hv mv hte hx hhi hmx
   split at hs
   ·rename_i e e' u xs k1 q k2 m hse hm hib him
    split at hs
    ·rename_i ee he
     obtain⟨hb,hs2⟩:=bvT hs;simp only[QQ]at hb;have ee':=Nat.eq_of_beq_eq_true hb.2;subst ee';obtain⟨_,hck,hs3⟩:=Y0 hs2;obtain⟨hck,_⟩:=bvT hck;simp only[QQ,decide_eq_true_eq]at hck;obtain⟨ys,hys,hk⟩:=Y0 hs3
     have hq:bnd S.flat [] xs.length (some hi)=some q:=by
      have hhi':ev S.flat [] hi=some hv:=hhi;grind [bnd]
     exact Jt6 hT hX hr h hw hd hb.1.1.1 hb.1.1.2 hop hte (Vb hse) he hb.1.2 hx hm hq hys (.inr ⟨hi,mx,k1,k2,m,rfl,rfl,h.toW.int (Qi a) hhi hib,h.toW.int (Qi a) hmx him,hck.1,hck.2⟩) hk H
    ·cases hs
   ·cases hs
  ·cases hs
 ·cases hs
theorem Qyc(hT:Jg P Y.T)(hX:X.n=n)(hr:X.res=[])(h:Rel X β ρ S.flat a w){o:Oper}(hw:Region.wanted o (yielded ops a.tmps)=true)(hs:Qt1 Y n o S k=some r)(H:KOk P ops Q rest X S β ρ k r) :
  wpList P ops Q (o::rest) a w:=by
 grind [Qt1,Q3l,Jt8]
theorem Ep{o:Oper}(hg:o.guard=none)(y:Nat→Option Bool):Region.wanted o y=true:=by grind [Region.wanted]
theorem Uy{l:List Oper}{o:Oper}{t:Nat}{b:Bool}(hg:Qn4 l o=some (some (t,b))):Region.wanted o (yielded ⟨l⟩ a.tmps)=true↔a.tmps[t]?=some (.bool b):=by
 unfold Qn4 at hg;split at hg
 ·cases hg
 ·rename_i j want hgd
  split at hg
  ·rename_i p hp
   split at hg
   ·rename_i t' ht
    simp at hg;obtain⟨rfl,rfl⟩:=hg;have hp':(Array.mk l)[j]?=some p:=by simpa using hp
    unfold Region.wanted;rw[hgd];simp only[yielded,hp',QJ,ht,beq_iff_eq];grind
   ·cases hg
  ·cases hg
theorem Tj{l:List Oper}{o:Oper}(hg:Qn4 l o=some none):o.guard=none:=by
 grind [Qn4]
theorem Qt5{o:Oper}(hw:Region.wanted o (yielded ops a.tmps)=false)(h:wpList P ops Q rest (a.put o.dst undef) w):wpList P ops Q (o::rest) a w:=by
 simp_all [wpList,if_neg]
theorem Jca(hX:X.n=n)(hr:X.res=[])(h:Rel X β ρ S.flat a w){o:Oper}(hw:Region.wanted o (yielded ops a.tmps)=false)(hs:Qjg n o S k=some r)(H:KOk P ops Q rest X S β ρ k r) :
  wpList P ops Q (o::rest) a w:=by
 refine Qt5 hw ?_;unfold Qjg at hs;split at hs
 ·rename_i d hd
  obtain⟨hb,hk⟩:=bvT hs;obtain⟨h1,h2⟩:=Ue hb hX hr;rw[hd];refine H β ρ _ _ _ hk (F0 S d [] _) ?_;rw[Hb h2];exact h.put0 h1 (x:=.tp .nil) (c:=[.tuple #[]]) ⟨[],rfl,rfl⟩
 ·rename_i hd
  rw[hd];exact H β ρ _ _ _ hs (Vv.refl _ _ _) h
theorem Jt9(hT:Jg P Y.T)(hX:X.n=n)(hr:X.res=[])(h:Rel X β ρ S.flat a w){l:List Oper}{o:Oper}{t:Nat}{want:Bool}(hg:Qn4 l o=some (some (t,want)))(hs:Qp3 Y n t want o S k=some r)(H:KOk P ⟨l⟩ Q rest X S β ρ k r) :
  wpList P ⟨l⟩ Q (o::rest) a w:=by
 unfold Qp3 at hs;split at hs
 ·rename_i t' cs b d he hd
  obtain⟨hb,hs⟩:=bvT hs;simp only[QQ]at hb;obtain⟨h1,h2⟩:=Ue hb.1.1 hX hr;have htd:=neB hb.1.2;have hud:∀c∈cs,c.1≠d:=Qi9 (by grind);split at hs
  ·rename_i v hv
   obtain⟨hm,ht'⟩:=Kl he;simp only at ht';subst ht'
   have hkeep:∀u:Value,J6 (a.put (some d) u) ((t',want)::cs)↔J6 a ((t',want)::cs):=by
    intro u
    have hne:∀c∈(t',want)::cs,c.1≠d:=by
     grind
    exact⟨fun hc c hm=>by rw[←Vy (hne c hm) u]; exact hc c hm,fun hc c hm=>by rw[Vy (hne c hm) u]; exact hc c hm⟩
   by_cases hw:Region.wanted o (yielded ⟨l⟩ a.tmps)=true
   ·have htb:=(Uy hg).1 hw
    have hcs:J6 a cs:=by
     rcases(h.en hm).2 with h3 | h3
     ·exact h3
     grind [Qbx,Qi7,undef]
    have hcur:J6 a ((t',want)::cs):=by
     intro c hc;rcases QX.1 hc with rfl | hc
     ·exact htb
     ·exact hcs c hc
    obtain⟨c,h3,h4⟩:=Qp0 hT h.toW hcur hv;refine J5 hw (Vi h3 ?_);rw[hd];refine H β ρ _ _ _ hs (F0 S d _ _) ?_;rw[Hb h2];exact h.put h1 (fun _=>⟨c,rfl,h4⟩) (.inl ((hkeep _).2 hcur))
   ·have hw':Region.wanted o (yielded ⟨l⟩ a.tmps)=false:=by simpa using hw
    refine Qt5 hw' ?_;rw[hd];refine H β ρ _ _ _ hs (F0 S d _ _) ?_;rw[Hb h2];refine h.put h1 (fun hc=>?_) (.inr rfl);have:=(hkeep _).1 hc;exact absurd ((Uy hg).2 (this _ (.head _))) hw
  ·cases hs
 ·cases hs
theorem Jua(hT:Jg P Y.T)(hX:X.n=n)(hr:X.res=[]){l:List Oper}(h:Rel X β ρ S.flat a w){o:Oper}(hs:Qp4 Y n l o S k=some r)(H:KOk P ⟨l⟩ Q rest X S β ρ k r):wpList P ⟨l⟩ Q (o::rest) a w:=by
 grind [Qp4,Qyc,Ep,Tj,Jt9]
theorem Jub(hT:Jg P Y.T)(hX:X.n=n)(hr:X.res=[]){l:List Oper}(h:Rel X β ρ S.flat a w){o:Oper}(hs:Gx.stepL Y n l o S k=some r)(H:KOk P ⟨l⟩ Q rest X S β ρ k r):wpList P ⟨l⟩ Q (o::rest) a w:=by
 unfold Gx.stepL at hs;split at hs
 ·grind [Qyc,Ep,Tj]
 ·rename_i t want hg
  split at hs
  ·rename_i t' b he
   obtain⟨cs,h1,h2⟩:=h.get he (Qi a);have h2':cs=_:=h2;subst h2';have h1':a.tmps[t]?=some (.bool b):=h1;split at hs
   ·grind [Qyc,Uy]
   ·rename_i hb
    refine Jca hX hr h ?_ hs H;have hne:b≠want:=by simpa using hb
    cases hw:Region.wanted o (yielded ⟨l⟩ a.tmps)with
    | false=>rfl
    | true =>
     have:=(Uy hg).1 hw;rw[h1']at this;grind
  ·rename_i t' he
   obtain⟨cs,h1,vs,h2,h3⟩:=h.get he (Qi a);subst h2;refine Jca hX hr h ?_ hs H;cases hw:Region.wanted o (yielded ⟨l⟩ a.tmps)with
   | false=>rfl
   | true =>
    have:=(Uy hg).1 hw;rw[h1]at this;injection this with this
    cases this
  ·cases hs
 ·cases hs
theorem Q67{l:List Oper}(st:Oper→XS→(XS→Option R)→Option R)
  (hst:∀{o:Oper} {rest:List Oper} {S:XS} {β:Nat→Nat} {ρ:Nat→Value} {a:Act} {w:World} {k:XS→Option R},Rel X β ρ S.flat a w→st o S k=some r→KOk P ⟨l⟩ Q rest X S β ρ k r→wpList P ⟨l⟩ Q (o::rest) a w) :
  ∀{l1 rest:List Oper} {S:XS} {β:Nat→Nat} {ρ:Nat→Value} {a:Act} {w:World} {k:XS→Option R},Rel X β ρ S.flat a w→Qu2 st l1 S k=some r→KOk P ⟨l⟩ Q rest X S β ρ k r→wpList P ⟨l⟩ Q (l1++rest) a w
 | [],rest,S,β,ρ,a,w,k,h,hs,H=>H β ρ S a w hs (Vv.refl _ _ _) h
 | o::l1,rest,S,β,ρ,a,w,k,h,hs,H=>by
  simp only[Qu2]at hs;refine hst (rest:=l1++rest) h hs fun β' ρ' S' a' w' hk hkeep h'=>?_;exact Q67 st hst h' hk (H.after hkeep)
end
end Gx

/- A map's entry that is made first and written then. -/
namespace Gx
open Go Go.RowKit Gd
section
variable {P:Program} {T:Tab}
end
section
variable {P:Program} {Y:TX} {X:Cx} {S:XS} {β β':Nat→Nat} {ρ ρ':Nat→Value} {a a':Act} {w w':World} {n:Nat}
variable {ops:Array Oper} {Q:Exit→Act→World→Prop} {rest:List Oper} {R:Type} {k:XS→Option R} {r:R}
end
end Gx
