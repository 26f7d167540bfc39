/- Steps that make slices. -/
import Derived.Test.YtjjpjagokgfbdaaGreatXJ
namespace Gx
open Go Go.RowKit Gd
set_option linter.unusedVariables false
set_option linter.unusedSimpArgs false
section
variable {P:Program} {Y:TX} {X:Cx} {S:XS} {β β':Nat→Nat} {ρ ρ':Nat→Value} {a a':Act} {w w':World} {n:Nat}
variable {ops:Array Oper} {Q:Exit→Act→World→Prop} {rest:List Oper} {R:Type} {k:XS→Option R} {r:R}
theorem J0(d:Nat)(β:Nat→Nat)(ρ:Nat→Value)(v:Value):Qfx d β β ρ (upd ρ d v):=fun i h=>⟨rfl,Zq _ _ h⟩
theorem Qqm(d:Nat):∀l:List En,Js (Js l d) d=Js l d
 | []=>rfl
 | x::l=>by
  simp only[Js]
  cases hb:(Nat.beq x.t d||Rq d x.cs)with
  | true=>simpa using Qqm d l
  | false=>simp only[cond_false,Js,hb,Qqm d l]
theorem Zy{M:List (Nat×Ob)}(hX:X.n=n)(hr:X.res=[])(ko:a.tmps.size=X.n){d:Nat}(zl:okW n S d=true)(hF:Jt d M=true)(hI:Qcr d S.fix=true)(hp:Yb S.prot d=false){v:Value}{o:Ob}{T':TL}
  (hS:Sb (fun _=>0) X (Tl (Qio X.n a) d (.v v)) ((S.env++S.fix).map (enD β ρ a)) [] (T'::Qg β ρ M) a' w') (hT:Wa T' (Qx β (upd ρ d v) d o)) (hv:∃A m c,v=.slice A m c) :
  Rel X β (upd ρ d v) ⟨⟨d,[],.s d⟩::(Js (Yv d S.env) d++S.fix),(d,o)::M⟩ a' w':=by
 obtain⟨h1,h2⟩:=Yy zl hX hr
 have ha:=J0 d β ρ v
 refine Rel.fin (β':=β) (ρ':=upd ρ d v) (mem':=(d,o)::M) (fun _ _=>trivial) hS ko h1 (.cons hT (N7 ha hF)) (fun e he ok w cs hc=>?_) (fun e he=>?_) (x:=.s d) (c:=[v]) rfl ?_
 ·exact G0 ha (C8 hI h2 e he).2.1 hc
 ·obtain⟨q1,_,q3,q4⟩:=C8 hI h2 e he
  exact⟨q1,q3,q4⟩
 ·refine⟨⟨_,rfl,.inl (by rw[Jd])⟩,?_⟩
  rw[Jd]; exact hv
theorem Cd(o:Oper):o=⟨o.dst,o.op,o.type,o.pos,o.after,o.guard⟩:=by cases o; rfl
theorem Rel.dropM{S:St}(h:Rel X β ρ S a w){id:Nat}{o:Ob}(hm:Qe S.mem id=some o):Rel X β ρ ⟨S.env,Jv S.mem id⟩ a w:=by
 obtain⟨l1,l2,e1,_,e3⟩:=Jj hm
 have uf:(Qg β ρ (l1++l2)).Sublist (Qg β ρ S.mem):=by
  rw[e1]
  refine List.Sublist.map _ ?_
  exact List.Sublist.append_left (List.sublist_cons_self _ _) _
 unfold Rel at h ⊢
 show Sb _ _ _ _ _ (Qg β ρ (Jv S.mem id)) _ _
 rw[e3]
 exact Sb.remake h (fun t' zb=>.inl ⟨t',uf.subset zb,fun _ hg=>hg,fun _ _ hc=>hc,(h.own t' (uf.subset zb)).1⟩) (h.dOO.sublist uf)
theorem Jpf(hT:Q4 P Y.T)(hX:X.n=n)(hr:X.res=[])(h:Rel X β ρ S.flat a w){o:Oper}(hw:Region.wanted o (yielded ops a.tmps)=true){d:Nat}(hd:o.dst=some d)(zl:okW n S d=true)(hb:okB S d=true)
  {t:TypeId} {l c:Operand} (kg:o.op=.makeSlice t l c) {te ee:TE} {e:TypeId} (ku:Qh Y.T t=some te) (kr:te.d=.slice e) (he:Qh Y.T e=some ee) {lv cv:AV} (hl:S.ev [] l=some lv) (hc:S.ev [] c=some cv)
  {k1 k2:IntKind} {nl nc:Int} (hli:Xr lv=some (k1,nl)) (hci:Xr cv=some (k2,nc)) {u:Ty} {za:AV} {z:u.De} (qx:L5 u ee.z=some za) (hz:asD [] za u=some z) (ko:Nat.beq ee.size u.size=true)
  (xi:Nat.beq (Qu ee.z).length ee.size=true) (y9:Nat.ble 1 ee.bytes=true) {zs:List u.De} (nu:mkL ee.bytes nl nc z=some zs)
  (hk:k ((S.born d (.row e u zs)).put d [] (.s d))=some r) (H:KOk P ops Q rest X S β ρ k r):wpList P ops Q (o::rest) a w:=by
 obtain⟨f1,f2,f3⟩:=Ge hb
 obtain⟨h1,h2⟩:=Yy zl hX hr
 have hg:=L9 h hw
 rw[Cd o,hd,kg]at hg ⊢
 refine Jaz hT h.toG (r:=rt u) hg h1 ku kr he (by rw[Ji]; exact QJ ko) xi y9 (fun ok w=>Z6 (β:=β) (ρ:=ρ) (M:=[]) (by simp[Qe]) hz (Ca qx))
  (by rw[gvE h (Qc a) hl,h.int (Qc a) hl hli]) (by rw[gvE h (Qc a) hc,h.int (Qc a) hc hci]) nu fun b a' w' hS=>?_
 refine H β (upd ρ d (.slice (some ⟨b,0,none⟩) zs.length nc.toNat)) _ _ _ hk (U4 f3 (J0 d β ρ _) _ _ _) ?_
 have:=Zy (o:=.row e u zs) hX hr h.sz zl f1 f2 f3 hS (by simp only[Qx,Jd]; exact Wa.refl _) ⟨_,_,_,rfl⟩
 exact this
theorem Jpg(hT:Q4 P Y.T)(hX:X.n=n)(hr:X.res=[])(h:Rel X β ρ S.flat a w){o:Oper}(hw:Region.wanted o (yielded ops a.tmps)=true){d:Nat}(hd:o.dst=some d)(zl:okW n S d=true)(hb:okB S d=true)
  {t:TypeId} (kg:o.op=.buildSlice t 0 ⟨[]⟩) {te ee:TE} {e:TypeId} (ku:Qh Y.T t=some te) (kr:te.d=.slice e) (he:Qh Y.T e=some ee) {u:Ty} (ko:Nat.beq ee.size u.size=true)
  (hk:k ((S.born d (.row e u [])).put d [] (.s d))=some r) (H:KOk P ops Q rest X S β ρ k r):wpList P ops Q (o::rest) a w:=by
 obtain⟨f1,f2,f3⟩:=Ge hb
 obtain⟨h1,h2⟩:=Yy zl hX hr
 have hg:=L9 h hw
 rw[Cd o,hd,kg]at hg ⊢
 refine Qpo hT h.toG (r:=rt u) hg h1 ku kr he fun b a' w' _ hS=>?_
 refine H β (upd ρ d (.slice (some ⟨b,0,none⟩) (List.length ([]:List u.De)) 0)) _ _ _ hk (U4 f3 (J0 d β ρ _) _ _ _) ?_
 have e1:ee.size=(rt u).size:=by rw[Ji]; exact QJ ko
 rw[e1]at hS
 have:=Zy (o:=.row e u []) hX hr h.sz zl f1 f2 f3 (hS.melt0) (by simp only[Qx,Jd]; exact Wa.refl _) ⟨_,_,_,rfl⟩
 exact this
theorem Qxi(h:Rel X β ρ S.flat a w){u:Ty}:∀{ps:List (Nat×Operand)} {vs:List (Nat×AV)} {xs:List u.De} {j:Nat},Y8 S.flat [] ps=some vs→asLs S.flat.mem u vs j=some xs →
  ∃us:List Value,ps.map (fun p=>(p.1,a.eval p.2))=(List.range' j us.length).zip us∧Qs0 (rt u) (okR X β ρ S.flat.mem w) w xs us∧us.length=xs.length∧evParts (Qio X.n a) ps=some (ps.map (fun p=>(p.1,a.eval p.2)))
 | [],vs,xs,j,he,hx=>by
  simp[Y8]at he; subst he
  simp[asLs]at hx; subst hx
  exact⟨[],rfl,trivial,rfl,rfl⟩
 | (i,x)::ps,vs,xs,j,he,hx=>by
  simp only[Y8]at he
  split at he
  ·rename_i v l hv hl
   simp at he; subst he
   simp only[asLs]at hx
   obtain⟨hb,hx⟩:=bvT hx
   simp only[QQ]at hb
   have:=QJ hb.1
   subst this
   split at hx
   ·rename_i y ys hy zp
    simp at hx; subst hx
    obtain⟨us,q1,q2,q3,q4⟩:=Qxi h (u:=u) (ps:=ps) hl zp
    have nz:=h.asD (Qc a) hv hy (bEq hb.2)
    refine⟨a.eval x::us,?_,⟨nz,q2⟩,by simp[q3],?_⟩
    ·simp only[JW,JI,KB,ZI,q1]
    ·simp only[evParts,gvE h (Qc a) hv,q4,JW]
   ·cases hx
  ·cases he
theorem Jqw(hT:Q4 P Y.T)(hX:X.n=n)(hr:X.res=[])(h:Rel X β ρ S.flat a w){o:Oper}(hw:Region.wanted o (yielded ops a.tmps)=true){d:Nat}(hd:o.dst=some d)(zl:okW n S d=true)
  {t:TypeId} {m:Nat} {ps:List (Nat×Operand)} (kg:o.op=.buildSlice t (m+1) ⟨ps⟩) {te ee:TE} {e:TypeId} (ku:Qh Y.T t=some te) (kr:te.d=.slice e) (he:Qh Y.T e=some ee) {u:Ty} (ko:Nat.beq ee.size u.size=true)
  {vs:List (Nat×AV)} {xs:List u.De} (sc:Y8 S.flat [] ps=some vs) (wt:asLs S.flat.mem u vs 0=some xs) (hl:Nat.beq xs.length (m+1)=true) (td:Nat.ble ((m+1)*ee.size) 16777216=true) (zq:Nat.ble 1 ee.size=true)
  (xi:Nat.beq (Qu ee.z).length ee.size=true) (hk:k (S.put d [] (.d (.sl u) xs))=some r) (H:KOk P ops Q rest X S β ρ k r):wpList P ops Q (o::rest) a w:=by
 obtain⟨h1,h2⟩:=Yy zl hX hr
 have hg:=L9 h hw
 obtain⟨us,q1,q2,q3,q4⟩:=Qxi h sc wt
 have xe:=QJ ko
 have xn:=QJ hl
 have xl:∀v∈us,(Qu v).length=ee.size:=by
  have key:∀{xs:List u.De} {us:List Value},Qs0 (rt u) (okR X β ρ S.flat.mem w) w xs us→∀v∈us,(Qu v).length=ee.size:=by
   intro xs
   induction xs with
   | nil=>intro us hu v hv; cases us with
    | nil=>cases hv
    | cons _ _=>cases hu
   | cons x xs ih =>
    intro us hu v hv
    cases us with
    | nil=>cases hv
    | cons y us =>
     rcases QX.1 hv with rfl | hv
     ·rw[(rt u).len (B6 hu.1),Ji,xe]
     ·exact ih hu.2 v hv
  exact key q2
 have yb:(U0 (Qu ee.z) ((m+1)*ee.size)).length=(m+1)*ee.size:=by simp[U0]
 have z7:=Q0n us 0 (U0 (Qu ee.z) ((m+1)*ee.size)) xl (by rw[yb,QE,q3,xn]; exact QD _)
 rw[←q1]at z7
 have vd:N0 (Qch ee.size) (U0 (Qu ee.z) ((m+1)*ee.size)) (ps.map (fun p=>(p.1,a.eval p.2)))=some (us.flatMap Qu):=by
  rw[z7]
  simp only[XB,ZA,QC,QE]
  rw[XN (by rw[yb,q3,xn]; exact QD _),QR]
 rw[Cd o,hd,kg]at hg ⊢
 refine Qnc hT h.toG (r:=rt u) hg h1 q4 ku kr he (by rw[Ji]; exact xe) xn td (XT (by have:=QF zq; have:=Nat.mul_le_mul (Nat.le_add_left 1 m) this; omega)) xi vd q2 fun A c a' w' hv hS=>?_
 refine H β ρ _ _ _ hk (G1 S d [] _) ?_
 have yn:=Rel.fin (β':=β) (ρ':=ρ) (env:=S.env++S.fix) (env':=Js S.env d++S.fix) (mem':=S.mem++S.fixM) (fun _ _=>trivial) hS h.sz h1 (Xc.refl _) (fun e he ok w cs hc=>hc) (fun e he=>by
  rcases QW.1 he with he | he
  ·obtain⟨p1,p2,p3⟩:=Fx he
   exact⟨QZ _ p1,p2,p3⟩
  ·obtain⟨p1,p2⟩:=Qct h2 e he
   exact⟨QV _ he,p1,p2⟩) (x:=.d (.sl u) xs) (c:=[.slice A xs.length c]) rfl ⟨_,rfl,Z5.1 hv⟩
 exact yn
theorem slV(h:Rel X β ρ S.flat a w){x:Operand}{xv:AV}{u:Ty}{ys:List u.De}(hx:S.ev [] x=some xv)(hy:asD S.flat.mem xv (.sl u)=some ys) :
  ∃A m c,a.eval x=.slice A m c∧isV (rSl (rt u)) (okR X β ρ S.flat.mem w) w ys (.slice A m c):=by
 have xg:(Ty.sl u).agg=xv.isAgg:=by
  cases xv with
  | d t' y'=>obtain⟨rfl,_⟩:=Ty.cast_ok (by simpa only[asD]using hy); rfl
  | ag l=>simp[asD]at hy
  | _=>rfl
 have nz:=h.asD (Qc a) hx hy xg
 obtain⟨A,c,yx,h1⟩:=Qjz (r:=rt u) nz
 exact⟨A,_,c,yx,h1⟩
theorem slR(h:Rel X β ρ S.flat a w){x:Operand}{xv:AV}{u:Ty}{ys:List u.De}(hx:S.ev [] x=some xv)(hy:asR S.flat.mem xv u=some ys) :
  ∃A m c,a.eval x=.slice A m c∧Qz4 (rt u) (okR X β ρ S.flat.mem w) w ys A m c:=by
 unfold asR at hy
 split at hy
 ·rename_i ys' qv
  injection hy with hy; subst hy
  obtain⟨A,m,c,h1,h2⟩:=slV h hx qv
  exact⟨A,m,c,h1,Q72 h2⟩
 ·split at hy
  ·rename_i id qf
   split at hy
   ·rename_i e t zs ho
    obtain⟨he,hz⟩:=Ty.cast_ok hy
    injection he with he
    subst he
    obtain⟨c1,h1,⟨v,rfl,yb⟩,A,m,c,hρ⟩:=h.ev (Qc a) hx
    have hp:=(h.ob ho).1
    have xm:(ml (ρ id) e (rt t) zs).p (okR X β ρ S.flat.mem w) w:=hp
    rw[hρ]at xm
    have tj:zs=ys:=hz.symm
    subst tj
    rcases yb with yb | ⟨vz,A0,yb⟩
    ·exact⟨A,m,c,by rw[h1,←hρ,←yb]; rfl,Je7 xm⟩
    ·refine⟨A0,0,0,by rw[h1,←yb]; rfl,?_⟩
     have hl:Zv (ρ id)=zs.length:=hp.1
     rw[vz]at hl
     have:zs=[]:=XZ.1 hl.symm
     subst this
     exact⟨[],by simp,rfl,QD _,fun _=>rfl,by simp,fun h=>absurd h (by omega),by simp⟩
   ·cases hy
  ·cases hy
theorem Jf8(hT:Q4 P Y.T)(hX:X.n=n)(hr:X.res=[])(h:Rel X β ρ S.flat a w){o:Oper}(hw:Region.wanted o (yielded ops a.tmps)=true){d:Nat}(hd:o.dst=some d)(zl:okW n S d=true)(hb:okB S d=true)
  {t:TypeId} {s x:Operand} (kg:o.op=.call ⟨.builtin .append,⟨[s,x]⟩,⟨[t,t]⟩⟩) {te ee:TE} {e:TypeId} (ku:Qh Y.T t=some te) (kr:te.d=.slice e) (he:Qh Y.T e=some ee) {u:Ty} (ko:Nat.beq ee.size u.size=true)
  (zq:Nat.ble 1 ee.size=true) (y9:Nat.ble 1 ee.bytes=true) (xi:Nat.beq (Qu ee.z).length ee.size=true) {xv:AV} (hs:S.ev [] s=some .ns) (hx:S.ev [] x=some xv) {ys zs:List u.De} (hy:asR S.flat.mem xv u=some ys)
  (zu:app ee.bytes [] ys=some zs) (hk:k ((S.born d (.row e u zs)).put d [] (.s d))=some r) (H:KOk P ops Q rest X S β ρ k r):wpList P ops Q (o::rest) a w:=by
 obtain⟨f1,f2,f3⟩:=Ge hb
 obtain⟨h1,h2⟩:=Yy zl hX hr
 have hg:=L9 h hw
 obtain⟨A2,m2,c2,tf,uo⟩:=slR h hx hy
 obtain⟨c1,zk,yw⟩:=h.ev (Qc a) hs
 have fa:c1=_:=yw
 subst fa
 have ya:a.eval s=.slice none 0 0:=zk
 have uc:Sb (fun _=>0) X (Qio X.n a) (S.flat.env.map (enD β ρ a)) [] (ml (.slice none 0 0) e (rt u) []::Qg β ρ S.flat.mem) a w:=Sb.addNilM h.toG e (rt u)
 have kj:∀b o,okR X β ρ S.flat.mem w b o→Jf X.ok X.w.heap.size (fun _=>0) [] (ml (.slice none 0 0) e (rt u) []::Qg β ρ S.flat.mem) w b o:=by
  rintro b o ⟨o1,o2,o3,o4⟩
  refine⟨o1,o2,o3,fun t ht hc=>?_⟩
  rcases QX.1 ht with rfl | ht
  ·cases hc
  ·exact o4 t ht hc
 rw[Cd o,hd,kg]at hg ⊢
 refine Qh4 hT uc [] (Qg β ρ S.flat.mem) (r:=rt u) hg h1 ku kr he (by rw[Ji]; exact QJ ko) xi zq y9 rfl (by rw[gvE h (Qc a) hs,ya]) (by rw[gvE h (Qc a) hx,tf]) (uo.weak kj) zu fun A' c' a' w' hS=>?_
 refine H β (upd ρ d (.slice A' zs.length c')) _ _ _ hk (U4 f3 (J0 d β ρ _) _ _ _) ?_
 exact Zy (o:=.row e u zs) hX hr h.sz zl f1 f2 f3 hS (by simp only[Qx,Jd]; exact Wa.refl _) ⟨_,_,_,rfl⟩
theorem K5{l m:List (Nat×Ob)}{id:Nat}{o:Ob}(h:Qe l id=some o):Jv (l++m) id=Jv l id++m:=by
 induction l with
 | nil=>simp[Qe]at h
 | cons q l ih =>
  simp only[Qe]at h
  simp only[Jv,QA]
  cases hb:Nat.beq q.1 id with
  | true=>rfl
  | false=>rw[hb]at h; simp only[cond_false,QA,ih h]
theorem Tx{T:Tab}{G:GL}{D:List DF}{H:HL}{O:List TL}(hT:Q4 P T)(h:Sb β X G D H O a w){t:TypeId}{s x:Operand}{d:Nat}{ps:String}{af:Array Edge}{ty:TypeId}{gd:Option (Nat×Bool)}
  (hg:B4 ops G ⟨some d,.call ⟨.builtin .append,⟨[s,x]⟩,⟨[t,t]⟩⟩,ty,ps,af,gd⟩=some true) (hlt:okD X d=true)
  {τ:Type} {r:RT τ} {ys zs:List τ} {A A2:Option Addr} {m2 c2:Nat} {e:TypeId} {te ee:TE} (ht:Qh T t=some te) (kr:te.d=.slice e) (he:Qh T e=some ee) (hs:ee.size=r.size)
  (hz:Nat.beq (Qu ee.z).length ee.size=true) (ko:Nat.ble 1 ee.size=true) (y9:Nat.ble 1 ee.bytes=true)
  (ua:gv G s=some (.v (.slice A 0 0))) (vj:gv G x=some (.v (.slice A2 m2 c2)))
  (hDy:Qz4 r (Jf X.ok X.w.heap.size β H O w) w ys A2 m2 c2) (zu:app ee.bytes ([]:List τ) ys=some zs)
  (yy:zs=[]→∀a',Sb β X (Tl G d (.v (.slice A 0 0))) D H O a' w→wpList P ops Q rest a' w)
  (jr:∀A' c' a' w',Sb β X (Tl G d (.v (.slice A' zs.length c'))) D H (ml (.slice A' zs.length c') e r zs::O) a' w'→wpList P ops Q rest a' w') :
  wpList P ops Q (⟨some d,.call ⟨.builtin .append,⟨[s,x]⟩,⟨[t,t]⟩⟩,ty,ps,af,gd⟩::rest) a w:=by
 obtain⟨zh,xf⟩:=Qj0 zu
 simp only[QC,JO,QE]at zh xf
 subst xf
 have h0:=Sb.addNilM h e r
 have hokn:∀b o,Jf X.ok X.w.heap.size β H O w b o→Jf X.ok X.w.heap.size β H (ml (.slice none 0 0) e r []::O) w b o:=by
  rintro b o ⟨o1,o2,o3,o4⟩
  refine⟨o1,o2,o3,fun t ht hc=>?_⟩
  rcases QX.1 ht with rfl | ht
  ·cases hc
  ·exact o4 t ht hc
 obtain⟨csy,va,vk,bm,hA2,qp,qq,qs⟩:=hDy.weak hokn
 have xi:=QJ hz
 have tn:0<ee.size:=QF ko
 have tq:0<ee.bytes:=QF y9
 have hu:P.underlying t=some (.slice e):=by rw[(Jm hT ht).2,kr]
 obtain⟨i,hi,tj,bu,vp⟩:=W7 hT he
 have hm2b:zs.length≤140737488355328:=QN (KX _ tq) zh
 have hm:(Array.mk [s,x]).map a.eval=⟨[.slice A 0 0,.slice A2 m2 c2]⟩:=by simp[h.ev ua,h.ev vj,Is]
 have u5:∀v' w1,(Builtin.append_ ⟨[t,t]⟩ ty ⟨[.slice A 0 0,.slice A2 m2 c2]⟩).run P w=.ok v' w1→(execOp a.eval ⟨some d,.call ⟨.builtin .append,⟨[s,x]⟩,⟨[t,t]⟩⟩,ty,ps,af,gd⟩).run P w=.ok (.value v') w1:=by
  intro v' w1 hr
  unfold execOp
  simp[resolve,hm,invoke,builtin,hr]
 rcases XJ m2 with js | js
 ·subst js
  have hx:zs=[]:=JX vk
  have ka:(Builtin.append_ ⟨[t,t]⟩ ty ⟨[.slice A 0 0,.slice A2 0 c2]⟩).run P w=.ok (.slice A 0 0) w:=by
   cases A<;>cases A2<;>simp[Builtin.append_,run_underlying hu,Go.sizeOf,typeInfo,hi,Builtin.lenOf,Builtin.firstCells,loadCells,loadCellsFrom,storeCells]
  refine Jl (Kj h hg) (Yo (u5 _ _ ka) ?_)
  exact yy hx _ (h.put hlt (.v _))
 ·obtain⟨b,o,rfl,hc⟩:=qq js
  have y8:∀j u,csy[j]?=some u→w.cell? ((⟨b,o,none⟩:Addr).add j)=some u:=fun j u hu=>by rw[Hy]; exact hc j u hu
  have tg:(Builtin.append_ ⟨[t,t]⟩ ty ⟨[.slice A 0 0,.slice (some ⟨b,o,none⟩) m2 c2]⟩).run P w=(Builtin.append_ ⟨[t,t]⟩ ty ⟨[.slice none 0 0,.slice (some ⟨b,o,none⟩) m2 c2]⟩).run P w:=by
   have hn:=run_append_nil (P:=P) w t ty e i ee.z hu hi tj (⟨b,o,none⟩) m2 c2 csy (by rw[bu,hs]; exact va) y8 js (by omega) (by rw[vp,←vk]; omega)
   cases A with
   | none=>rfl
   | some ad =>
    have:=run_append_grow (P:=P) w t ty e i ee.z hu hi tj ad 0 0 [] (by simp) (by simp) ⟨b,o,none⟩ m2 c2 csy (by rw[bu,hs]; exact va) y8 (by omega) (by omega) (growslice_fits (by omega) (by rw[vp,QE,←vk]; exact zh))
    have hh:(Builtin.append_ #[t,t] ty #[.slice (some ad) 0 0,.slice (some ⟨b,o,none⟩) m2 c2]).run P w=(Builtin.append_ #[t,t] ty #[.slice none 0 0,.slice (some ⟨b,o,none⟩) m2 c2]).run P w:=by
     rw[this,hn]; simp
    exact hh
  obtain⟨v',w1,ka,zm,kp,hblk⟩:=Qgg (P:=P) (w:=w) (ty:=ty) hT ht kr he xi tn tq (World.ownsRowS_nil w 0 e ee.size) (JB _) (k:=m2) (c:=c2) (A:=some ⟨b,o,none⟩) (news:=csy) (by rw[hs]; exact va) hA2 (fun ad vl=>by injection vl with vl; subst vl; exact y8) qp (by rw[←vk,QE]; exact zh)
  refine Jl (Kj h hg) (Yo (u5 _ _ (tg.trans ka)) ?_)
  have xa:∃A' c',v'=.slice A' (0+m2) c':=by
   rcases zm.2 with⟨rfl,h0⟩ | ⟨g,cap,cur,fz,rfl,_⟩
   ·exact⟨none,0,by rw[h0]⟩
   ·exact⟨_,cap,rfl⟩
  obtain⟨A',c',rfl⟩:=xa
  rw[QE]at zm
  rw[QE]at hblk
  have hS:Sb β X G D H (ml (.slice A' m2 c') e r zs::O) a w1:=by
   refine h0.upd (O1:=[]) rfl kp.os kp.tape kp.output kp.size (fun b hb hn=>kp.block b hb fun e=>hn e.symm) (fun b o hb=>hb) (fun g hg=>?_) fun kq kj=>?_
   ·rcases hblk with zw | ⟨zw,_⟩
    ·exact .inl (by have hg:(Value.slice A' m2 c').ownBlock=some g:=hg; rw[zw]at hg; exact hg)
    ·have hg:(Value.slice A' m2 c').ownBlock=some g:=hg
     rw[zw]at hg; injection hg with hg; exact .inr (by omega)
   ·refine⟨vk.symm,csy,by rw[←hs]; exact zm,X5 (Fv ?_ kq) kj⟩
    exact Qh3 zs csy (by rw[va,vk]) qs
  have:=jr A' c' (a.put (some d) (.slice A' m2 c')) w1
  rw[vk]at this
  rw[QE]
  exact this (hS.put hlt (.v _))
theorem Qqn{M:List (Nat×Ob)}(hX:X.n=n)(hr:X.res=[])(ko:a.tmps.size=X.n){d:Nat}(zl:okW n S d=true)(hF:Jt d M=true)(hI:Qcr d S.fix=true)(hp:Yb S.prot d=false){A:Option Addr}{e:TypeId}{u:Ty}
  (hS:Sb (fun _=>0) X (Tl (Qio X.n a) d (.v (.slice A 0 0))) ((S.env++S.fix).map (enD β ρ a)) [] (Qg β ρ M) a' w') :
  Rel X β (upd ρ d (.slice none 0 0)) ⟨⟨d,[],.s d⟩::(Js (Yv d S.env) d++S.fix),(d,.row e u [])::M⟩ a' w':=by
 obtain⟨h1,h2⟩:=Yy zl hX hr
 have ha:=J0 d β ρ (.slice none 0 0)
 refine Rel.fin (β':=β) (ρ':=upd ρ d (.slice none 0 0)) (mem':=(d,.row e u [])::M) (fun _ _=>trivial) (Sb.addNilM hS e (rt u)) ko h1 (.cons (by simp only[Qx,Jd]; exact Wa.refl _) (N7 ha hF)) (fun e he ok w cs hc=>?_) (fun e he=>?_) (x:=.s d) (c:=[.slice A 0 0]) rfl ?_
 ·exact G0 ha (C8 hI h2 e he).2.1 hc
 ·obtain⟨q1,_,q3,q4⟩:=C8 hI h2 e he
  exact⟨q1,q3,q4⟩
 ·refine⟨⟨_,rfl,.inr ⟨by rw[Jd],A,rfl⟩⟩,?_⟩
  rw[Jd]; exact⟨_,_,_,rfl⟩
theorem Jf9(hT:Q4 P Y.T)(hX:X.n=n)(hr:X.res=[])(h:Rel X β ρ S.flat a w){o:Oper}(hw:Region.wanted o (yielded ops a.tmps)=true){d:Nat}(hd:o.dst=some d)(zl:okW n S d=true){id:Nat}
  (hb:okB ⟨S.env,S.fix,Jv S.mem id,S.fixM,S.prot⟩ d=true)
  {t:TypeId} {s x:Operand} (kg:o.op=.call ⟨.builtin .append,⟨[s,x]⟩,⟨[t,t]⟩⟩) {te ee:TE} {e:TypeId} (ku:Qh Y.T t=some te) (kr:te.d=.slice e) (he:Qh Y.T e=some ee) {u:Ty} (ko:Nat.beq ee.size u.size=true)
  (zq:Nat.ble 1 ee.size=true) (y9:Nat.ble 1 ee.bytes=true) (xi:Nat.beq (Qu ee.z).length ee.size=true) {xv:AV} (hs:S.ev [] s=some (.s id)) (hx:S.ev [] x=some xv) {xs ys zs:List u.De} (hm:Qe S.mem id=some (.row e u xs)) (hy:asR S.flat.mem xv u=some ys)
  (zu:app ee.bytes xs ys=some zs) (hk:k (({ S with mem:=Jv S.mem id }.born d (.row e u zs)).put d [] (.s d))=some r) (H:KOk P ops Q rest X S β ρ k r):wpList P ops Q (o::rest) a w:=by
 obtain⟨f1,f2,f3⟩:=Ge hb
 obtain⟨h1,h2⟩:=Yy zl hX hr
 have hg:=L9 h hw
 obtain⟨A2,m2,c2,tf,uo⟩:=slR h hx hy
 obtain⟨c1,zk,⟨v0,yw,yb⟩,A,m,c,hρ⟩:=h.ev (Qc a) hs
 subst yw
 have zz:Qe S.flat.mem id=some (.row e u xs):=Q0 hm
 have e4':Jv S.mem id++S.fixM=Jv S.flat.mem id:=(K5 hm).symm
 rcases yb with yb | ⟨vz,A0,yb⟩
 case inr =>
  have ya:a.eval s=.slice A0 0 0:=by rw[zk,←yb]; rfl
  have wt:xs=[]:=by
   have:=(h.ob zz).1.1
   rw[vz]at this
   exact XZ.1 this.symm
  subst wt
  have hR:=h.dropM zz
  have vm:∀b o,okR X β ρ S.flat.mem w b o→Jf X.ok X.w.heap.size (fun _=>0) [] (Qg β ρ (Jv S.flat.mem id)) w b o:=by
   rintro b o ⟨o1,o2,o3,o4⟩
   refine⟨o1,o2,o3,fun t ht hc=>?_⟩
   obtain⟨l1,l2,e1,_,e3⟩:=Jj zz
   obtain⟨q,hq,rfl⟩:=QY.1 ht
   rw[e3]at hq
   refine o4 _ (QY.2 ⟨q,?_,rfl⟩) hc
   rw[e1]
   rcases QW.1 hq with hq | hq
   ·exact QZ _ hq
   ·exact QV _ (.tail _ hq)
  rw[Cd o,hd,kg]at hg ⊢
  refine Tx (a:=a) hT hR.toG (r:=rt u) hg h1 ku kr he (by rw[Ji]; exact QJ ko) xi zq y9 (by rw[gvE h (Qc a) hs,ya]) (by rw[gvE h (Qc a) hx,tf]) (uo.weak vm) zu (fun hz a' hS=>?_) fun A' c' a' w' hS=>?_
  ·subst hz
   rw[←e4']at hS
   exact H β (upd ρ d (.slice none 0 0)) _ _ _ hk ⟨rfl,rfl,rfl,Wi f3 (J0 d β ρ _)⟩ (Qqn (S:={ S with mem:=Jv S.mem id }) hX hr h.sz zl f1 f2 f3 hS)
  ·rw[←e4']at hS
   refine H β (upd ρ d (.slice A' zs.length c')) _ _ _ hk ⟨rfl,rfl,rfl,Wi f3 (J0 d β ρ _)⟩ ?_
   exact Zy (S:={ S with mem:=Jv S.mem id }) (o:=.row e u zs) hX hr h.sz zl f1 f2 f3 hS (by simp only[Qx,Jd]; exact Wa.refl _) ⟨_,_,_,rfl⟩
 have ya:a.eval s=.slice A m c:=by rw[zk,←hρ,←yb]; rfl
 obtain⟨l1,l2,e1,_,e3⟩:=Jj zz
 have hO:Qg β ρ S.flat.mem=Qg β ρ l1++ml (.slice A m c) e (rt u) xs::Qg β ρ l2:=by rw[e1]; simp[Qg,Qx,hρ]
 rw[Cd o,hd,kg]at hg ⊢
 refine Qh4 hT h.toG (Qg β ρ l1) (Qg β ρ l2) (r:=rt u) hg h1 ku kr he (by rw[Ji]; exact QJ ko) xi zq y9 hO (by rw[gvE h (Qc a) hs,ya]) (by rw[gvE h (Qc a) hx,tf]) uo zu fun A' c' a' w' hS=>?_
 refine H β (upd ρ d (.slice A' zs.length c')) _ _ _ hk ⟨rfl,rfl,rfl,Wi f3 (J0 d β ρ _)⟩ ?_
 have e4:Jv S.mem id++S.fixM=l1++l2:=by rw[←K5 hm]; exact e3
 have hS':=hS.perm (O':=ml (.slice A' zs.length c') e (rt u) zs::Qg β ρ (Jv S.mem id++S.fixM)) (by rw[e4]; simp only[Qg,JK]; exact XK)
 exact Zy (S:={ S with mem:=Jv S.mem id }) (o:=.row e u zs) hX hr h.sz zl f1 f2 f3 hS' (by simp only[Qx,Jd]; exact Wa.refl _) ⟨_,_,_,rfl⟩
theorem Jbo(hT:Q4 P Y.T)(hX:X.n=n)(hr:X.res=[])(h:Rel X β ρ S.flat a w){o:Oper}(hw:Region.wanted o (yielded ops a.tmps)=true){d:Nat}(hd:o.dst=some d)(zl:okW n S d=true){id:Nat}
  (hb:okB ⟨S.env,S.fix,Jv S.mem id,S.fixM,S.prot⟩ d=true)
  {t:TypeId} {s x:Operand} (kg:o.op=.call ⟨.builtin .append,⟨[s,x]⟩,⟨[t,t]⟩⟩) {te ee:TE} {e:TypeId} (ku:Qh Y.T t=some te) (kr:te.d=.slice e) (he:Qh Y.T e=some ee) {u:Ty} (ko:Nat.beq ee.size u.size=true)
  (zq:Nat.ble 1 ee.size=true) (y9:Nat.ble 1 ee.bytes=true) (xi:Nat.beq (Qu ee.z).length ee.size=true) {xv:AV} (hs:S.ev [] s=some (.s id)) (hx:S.ev [] x=some xv) {xs ys zs:List u.De} (hm:Qe S.mem id=some (.tail e u xs)) (hy:asD S.flat.mem xv (.sl u)=some ys)
  (zu:app ee.bytes xs ys=some zs) (hk:k (({ S with mem:=Jv S.mem id }.born d (.tail e u zs)).put d [] (.s d))=some r) (H:KOk P ops Q rest X S β ρ k r):wpList P ops Q (o::rest) a w:=by
 obtain⟨f1,f2,f3⟩:=Ge hb
 obtain⟨h1,h2⟩:=Yy zl hX hr
 have hg:=L9 h hw
 obtain⟨A2,m2,c2,tf,uo⟩:=slV h hx hy
 obtain⟨c1,zk,⟨v0,yw,yb⟩,A,m,c,hρ⟩:=h.ev (Qc a) hs
 subst yw
 have zz:Qe S.flat.mem id=some (.tail e u xs):=Q0 hm
 have e4':Jv S.mem id++S.fixM=Jv S.flat.mem id:=(K5 hm).symm
 rcases yb with yb | ⟨vz,A0,yb⟩
 case inr =>
  have ya:a.eval s=.slice A0 0 0:=by rw[zk,←yb]; rfl
  have wt:xs=[]:=by
   have:=(h.ob zz).1.1
   rw[vz]at this
   obtain⟨A',c',q1,_⟩:=Qjz this
   injection q1 with _ q2
   exact XZ.1 q2.symm
  subst wt
  have hR:=h.dropM zz
  have vm:∀b o,okR X β ρ S.flat.mem w b o→Jf X.ok X.w.heap.size (fun _=>0) [] (Qg β ρ (Jv S.flat.mem id)) w b o:=by
   rintro b o ⟨o1,o2,o3,o4⟩
   refine⟨o1,o2,o3,fun t ht hc=>?_⟩
   obtain⟨l1,l2,e1,_,e3⟩:=Jj zz
   obtain⟨q,hq,rfl⟩:=QY.1 ht
   rw[e3]at hq
   refine o4 _ (QY.2 ⟨q,?_,rfl⟩) hc
   rw[e1]
   rcases QW.1 hq with hq | hq
   ·exact QZ _ hq
   ·exact QV _ (.tail _ hq)
  have yk:∀{ρ1:Nat→Value} {a1:Act} {w1:World},Rel X β ρ1 ⟨⟨d,[],.s d⟩::(Js (Yv d S.env) d++S.fix),(d,.row e u zs)::(Jv S.mem id++S.fixM)⟩ a1 w1→Rel X β ρ1 ⟨⟨d,[],.s d⟩::(Js (Yv d S.env) d++S.fix),(d,.tail e u zs)::(Jv S.mem id++S.fixM)⟩ a1 w1 :=
   fun hq=>Rel.freeze1 (l1:=[]) hq (by rw[←QJ ko]; exact zq)
  rw[Cd o,hd,kg]at hg ⊢
  refine Tx (a:=a) hT hR.toG (r:=rt u) hg h1 ku kr he (by rw[Ji]; exact QJ ko) xi zq y9 (by rw[gvE h (Qc a) hs,ya]) (by rw[gvE h (Qc a) hx,tf]) (Q72 (uo.weak vm)) zu (fun hz a' hS=>?_) fun A' c' a' w' hS=>?_
  ·subst hz
   rw[←e4']at hS
   exact H β (upd ρ d (.slice none 0 0)) _ _ _ hk ⟨rfl,rfl,rfl,Wi f3 (J0 d β ρ _)⟩ (yk (Qqn (S:={ S with mem:=Jv S.mem id }) hX hr h.sz zl f1 f2 f3 hS))
  ·rw[←e4']at hS
   refine H β (upd ρ d (.slice A' zs.length c')) _ _ _ hk ⟨rfl,rfl,rfl,Wi f3 (J0 d β ρ _)⟩ (yk ?_)
   exact Zy (S:={ S with mem:=Jv S.mem id }) (o:=.row e u zs) hX hr h.sz zl f1 f2 f3 hS (by simp only[Qx,Jd]; exact Wa.refl _) ⟨_,_,_,rfl⟩
 have ya:a.eval s=.slice A m c:=by rw[zk,←hρ,←yb]; rfl
 have xe:ee.size=(rt u).size:=by rw[Ji]; exact QJ ko
 obtain⟨l1,l2,e1,_,e3⟩:=Jj zz
 have hO:Qg β ρ S.flat.mem=Qg β ρ l1++Qck (.slice A m c) e (rt u) xs::Qg β ρ l2:=by rw[e1]; simp[Qg,Qx,hρ]
 have hG:=h.toG
 rw[hO]at hG
 have qa:isV (rSl (rt u)) (Jf X.ok X.w.heap.size (fun _=>0) [] (Qg β ρ S.flat.mem) w) w xs (.slice A m c):=by
  have:=(h.ob zz).1.1
  rw[hρ]at this
  exact this
 have u6:Xc (Qg β ρ l1++Qck (.slice A m c) e (rt u) xs::Qg β ρ l2) (Qg β ρ l1++tl (.slice A m c) e ee.size::Qg β ρ l2) :=
  (Xc.refl _).append (.cons ⟨fun _=>Iff.rfl,fun _ _=>by rw[xe]; exact Iff.rfl,fun _ _ hp=>by rw[xe]; exact hp.2⟩ (Xc.refl _))
 have hG2:=Sb.simO hG u6
 have kj:∀b o,Jf X.ok X.w.heap.size (fun _=>0) [] (Qg β ρ S.flat.mem) w b o→Jf X.ok X.w.heap.size (fun _=>0) [] (Qg β ρ l1++tl (.slice A m c) e ee.size::Qg β ρ l2) w b o:=by rw[hO]; exact u6.ok
 have hG3:=hG2.addD (d:=DF.v (rSl (rt u)) xs (.slice A m c)) (qa.weak kj)
 rw[Cd o,hd,kg]at hg ⊢
 refine Qz5 hT hG3 0 0 (Qg β ρ l1) (Qg β ρ l2) (r:=rt u) hg h1 ku kr he xe xi zq y9 rfl (by rw[gvE h (Qc a) hs,ya]) (by rw[gvE h (Qc a) hx,tf]) rfl (uo.weak kj) zu fun A' c' a' w' mu hS=>?_
 refine H β (upd ρ d (.slice A' zs.length c')) _ _ _ hk ⟨rfl,rfl,rfl,Wi f3 (J0 d β ρ _)⟩ ?_
 have e4:Jv S.mem id++S.fixM=l1++l2:=by rw[←K5 hm]; exact e3
 have hS1:Sb (fun _=>0) X (Tl (Qio X.n a) d (.v (.slice A' zs.length c'))) (S.flat.env.map (enD β ρ a)) [] (Qg β ρ l1++tl (.slice A' zs.length c') e ee.size::Qg β ρ l2) a' w':={ hS with dat:=hS.dat.2 }
 have xc:=QM.1 hS1.dOO
 have hS2:Sb (fun _=>0) X (Tl (Qio X.n a) d (.v (.slice A' zs.length c'))) (S.flat.env.map (enD β ρ a)) [] (Qg β ρ l1++Qck (.slice A' zs.length c') e (rt u) zs::Qg β ρ l2) a' w':=by
  refine Sb.remake hS1 (fun t' zb=>?_) ?_
  ·rcases QW.1 zb with zb | zb
   ·exact .inl ⟨t',by simp[zb],fun _ hg=>hg,fun _ _ hc=>hc,(hS1.own t' (by simp[zb])).1⟩
   ·rcases QX.1 zb with rfl | zb
    ·refine .inl ⟨tl (.slice A' zs.length c') e ee.size,by simp,fun _ hg=>hg,fun _ _ hc=>by rw[xe]; exact hc,mu,?_⟩
     have:=(hS1.own (tl (.slice A' zs.length c') e ee.size) (by simp)).1
     rw[xe]at this
     exact this
    ·exact .inl ⟨t',by simp[zb],fun _ hg=>hg,fun _ _ hc=>hc,(hS1.own t' (by simp[zb])).1⟩
  ·have sx:=QG.1 xc.2.1
   refine QM.2 ⟨xc.1,QG.2 ⟨fun u hu=>sx.1 u hu,sx.2⟩,fun t ht t' zb=>?_⟩
   rcases QX.1 zb with rfl | zb
   ·exact xc.2.2 t ht (tl (.slice A' zs.length c') e ee.size) (.head _)
   ·exact xc.2.2 t ht t' (.tail _ zb)
 have hS':=hS2.perm (O':=Qck (.slice A' zs.length c') e (rt u) zs::Qg β ρ (Jv S.mem id++S.fixM)) (by rw[e4]; simp only[Qg,JK]; exact XK)
 exact Zy (S:={ S with mem:=Jv S.mem id }) (o:=.tail e u zs) hX hr h.sz zl f1 f2 f3 hS' (by simp only[Qx,Jd]; exact Wa.refl _) ⟨_,_,_,rfl⟩
theorem Jph(hT:Q4 P Y.T)(hX:X.n=n)(hr:X.res=[])(h:Rel X β ρ S.flat a w){o:Oper}(hw:Region.wanted o (yielded ops a.tmps)=true){d:Nat}(hd:o.dst=some d)(zl:okW n S d=true)(hb:okB S d=true)
  {t:TypeId} {s x:Operand} (kg:o.op=.call ⟨.builtin .append,⟨[s,x]⟩,⟨[t,t]⟩⟩) {te ee:TE} {e:TypeId} (ku:Qh Y.T t=some te) (kr:te.d=.slice e) (he:Qh Y.T e=some ee) {u:Ty} (ko:Nat.beq ee.size u.size=true)
  (zq:Nat.ble 1 ee.size=true) (y9:Nat.ble 1 ee.bytes=true) (xi:Nat.beq (Qu ee.z).length ee.size=true) {xv:AV} (hs:S.ev [] s=some .z) (hx:S.ev [] x=some xv) {ys zs:List u.De} (hy:asR S.flat.mem xv u=some ys)
  (zu:app ee.bytes [] ys=some zs) (hk:k ((S.born d (.row e u zs)).put d [] (.s d))=some r) (H:KOk P ops Q rest X S β ρ k r):wpList P ops Q (o::rest) a w:=by
 obtain⟨f1,f2,f3⟩:=Ge hb
 obtain⟨h1,h2⟩:=Yy zl hX hr
 have hg:=L9 h hw
 obtain⟨A2,m2,c2,tf,uo⟩:=slR h hx hy
 obtain⟨c1,zk,A,yw⟩:=h.ev (Qc a) hs
 subst yw
 have ya:a.eval s=.slice A 0 0:=zk
 rw[Cd o,hd,kg]at hg ⊢
 refine Tx hT h.toG (r:=rt u) hg h1 ku kr he (by rw[Ji]; exact QJ ko) xi zq y9 (by rw[gvE h (Qc a) hs,ya]) (by rw[gvE h (Qc a) hx,tf]) uo zu (fun hz a' hS=>?_) fun A' c' a' w' hS=>?_
 ·subst hz
  exact H β (upd ρ d (.slice none 0 0)) _ _ _ hk (U4 f3 (J0 d β ρ _) _ _ _) (Qqn hX hr h.sz zl f1 f2 f3 hS)
 ·refine H β (upd ρ d (.slice A' zs.length c')) _ _ _ hk (U4 f3 (J0 d β ρ _) _ _ _) ?_
  exact Zy (o:=.row e u zs) hX hr h.sz zl f1 f2 f3 hS (by simp only[Qx,Jd]; exact Wa.refl _) ⟨_,_,_,rfl⟩
end
end Gx

/- Strings as bytes, strings that are appended to bytes. -/
namespace Gx
open Go Go.RowKit Go.Lib Gd
set_option linter.unusedVariables false
set_option linter.unusedSimpArgs false
set_option linter.constructorNameAsVariable false
theorem Tz(l:Str):strCells ⟨⟨l⟩⟩=(Z7 l).map (Value.int .u8):=by simp[strCells,Z7]
theorem Qet{k:IntKind}{ok:Ok}{w:World}:∀xs:List Int,Kc (Tk k) ok w xs (xs.map (Value.int k))
 | []=>rfl
 | x::xs=>⟨[.int k x],xs.map (Value.int k),rfl,rfl,Qet xs⟩
theorem Jkz{v:Value}(h:Jo9 v=true):v=.int .u8 0:=by
 unfold Jo9 at h
 split at h
 ·rfl
 ·cases h
theorem Jk0{d:TypeDesc}(h:Jpa d=true):d=.int .u8:=by
 unfold Jpa at h
 split at h
 ·rfl
 ·cases h
theorem Jbp{d:TypeDesc}(h:Q5u d=true):d=.string:=by
 unfold Q5u at h
 split at h
 ·rfl
 ·cases h
theorem Q05(w:World)(e:TypeId)(s:ByteArray):Below w.heap.size w (bytesWorld w e s) :=
 ⟨rfl,rfl,rfl,by rw[bytesWorld_size]; omega,fun b hb=>bytesWorld_at_old w e s b hb⟩
section
variable {P:Program} {T:Tab} {β:Nat→Nat} {X:Cx} {G:GL} {D:List DF} {H:HL} {O:List TL} {a:Act} {w w':World}
variable {ops:Array Oper} {Q:Exit→Act→World→Prop} {rest:List Oper}
theorem Qqo(hT:Q4 P T)(h:Sb β X G D H O a w)(O1 O2:List TL){t t':TypeId}{s x:Operand}{d:Nat}{ps:String}{af:Array Edge}{ty:TypeId}{gd:Option (Nat×Bool)}
  (hg:B4 ops G ⟨some d,.call ⟨.builtin .append,⟨[s,x]⟩,⟨[t,t']⟩⟩,ty,ps,af,gd⟩=some true) (hlt:okD X d=true)
  {xs zs:List Int} {l:Str} {A:Option Addr} {m c:Nat} {e:TypeId} {te te' ee:TE} (ht:Qh T t=some te) (kr:te.d=.slice e) (zb:Qh T t'=some te') (u7:te'.d=.string) (he:Qh T e=some ee)
  (hz:ee.z=.int .u8 0) (ko:ee.size=1) (y9:ee.bytes=1)
  (hO:O=O1++ml (.slice A m c) e (Tk .u8) xs::O2) (ua:gv G s=some (.v (.slice A m c))) (vj:gv G x=some (.v (Ye l))) (zu:app 1 xs (Z7 l)=some zs)
  (hk:∀A' c' a' w',Sb β X (Tl G d (.v (.slice A' zs.length c'))) D H (O1++ml (.slice A' zs.length c') e (Tk .u8) zs::O2) a' w'→wpList P ops Q rest a' w') :
  wpList P ops Q (⟨some d,.call ⟨.builtin .append,⟨[s,x]⟩,⟨[t,t']⟩⟩,ty,ps,af,gd⟩::rest) a w:=by
 obtain⟨zh,rfl⟩:=Qj0 zu
 have ke:ml (.slice A m c) e (Tk .u8) xs∈O:=by rw[hO]; simp
 obtain⟨⟨hl,xs0,kb,hr⟩,zd⟩:=h.own _ ke
 obtain⟨i,hi,tj,ui,yo⟩:=W7 hT he
 simp only[Zv]at kb hl
 have ph:(Z7 l).length=l.length:=by simp[Z7]
 have hu:=(Jm hT ht).2; rw[kr]at hu
 have tv:=(Jm hT zb).2; rw[u7]at tv
 have vr:(⟨⟨l⟩⟩:ByteArray).size=l.length:=rfl
 obtain⟨v',w1,ka,zm,kp,hblk⟩:=Qcj (P:=P) (w:=w) (ty:=ty) hu tv hi (by rw[tj,hz]) (by rw[ui,ko]) (by rw[yo,y9]) (base:=0) (v:=.slice A m c) (n:=m) (xs:=xs0) kb ⟨⟨l⟩⟩ (by rw[vr]; omega) (JB _)
 rw[vr]at zm
 have z8:(execOp a.eval ⟨some d,.call ⟨.builtin .append,⟨[s,x]⟩,⟨[t,t']⟩⟩,ty,ps,af,gd⟩).run P w=.ok (.value v') w1:=by
  unfold execOp
  have hm:(Array.mk [s,x]).map a.eval=⟨[.slice A m c,Ye l]⟩:=by simp[h.ev ua,h.ev vj,Is]
  simp only[resolve,hm,invoke,builtin]
  simp[ka,Ye]
 have xa:∃A' c',v'=.slice A' (m+l.length) c':=by
  rcases zm.2 with⟨rfl,h0⟩ | ⟨g,cap,cur,fz,rfl,_⟩
  ·exact⟨none,0,by rw[h0]⟩
  ·exact⟨_,cap,rfl⟩
 obtain⟨A',c',rfl⟩:=xa
 have hlen:m+l.length=(xs++Z7 l).length:=by rw[QI,hl,ph]
 refine Jl (Kj h hg) (Yo z8 ?_)
 have hS:Sb β X G D H (O1++ml (.slice A' (m+l.length) c') e (Tk .u8) (xs++Z7 l)::O2) a w1:=by
  refine h.upd hO kp.os kp.tape kp.output kp.size (fun b hb hn=>kp.block b hb fun e=>hn e.symm) (fun b o hb=>hb) (fun g hg=>?_) fun kq kj=>?_
  ·rcases hblk with zw | ⟨zw,_⟩
   ·exact .inl (by have hg:(Value.slice A' (m+l.length) c').ownBlock=some g:=hg; rw[zw]at hg; exact hg)
   ·have hg:(Value.slice A' (m+l.length) c').ownBlock=some g:=hg
    rw[zw]at hg; injection hg with hg; exact .inr (by omega)
  ·refine⟨hlen,xs0++strCells ⟨⟨l⟩⟩,zm,N2 (X5 (Fv hr kq) kj) ?_⟩
   rw[Tz]
   exact Qet _
 have:=hk A' c' (a.put (some d) (.slice A' (m+l.length) c')) w1
 rw[←hlen]at this
 exact this (hS.put hlt (.v _))
theorem Q53(hT:Q4 P T)(h:Sb β X G D H O a w){t t':TypeId}{s x:Operand}{d:Nat}{ps:String}{af:Array Edge}{ty:TypeId}{gd:Option (Nat×Bool)}
  (hg:B4 ops G ⟨some d,.call ⟨.builtin .append,⟨[s,x]⟩,⟨[t,t']⟩⟩,ty,ps,af,gd⟩=some true) (hlt:okD X d=true)
  {zs:List Int} {l:Str} {A:Option Addr} {e:TypeId} {te te' ee:TE} (ht:Qh T t=some te) (kr:te.d=.slice e) (zb:Qh T t'=some te') (u7:te'.d=.string) (he:Qh T e=some ee)
  (hz:ee.z=.int .u8 0) (ko:ee.size=1) (y9:ee.bytes=1)
  (ua:gv G s=some (.v (.slice A 0 0))) (vj:gv G x=some (.v (Ye l))) (zu:app 1 [] (Z7 l)=some zs)
  (yy:zs=[]→∀a',Sb β X (Tl G d (.v (.slice A 0 0))) D H O a' w→wpList P ops Q rest a' w)
  (jr:∀A' c' a' w',Sb β X (Tl G d (.v (.slice A' zs.length c'))) D H (ml (.slice A' zs.length c') e (Tk .u8) zs::O) a' w'→wpList P ops Q rest a' w') :
  wpList P ops Q (⟨some d,.call ⟨.builtin .append,⟨[s,x]⟩,⟨[t,t']⟩⟩,ty,ps,af,gd⟩::rest) a w:=by
 obtain⟨zh,xf⟩:=Qj0 zu
 simp only[QC,JO,QE]at zh xf
 subst xf
 obtain⟨i,hi,tj,ui,yo⟩:=W7 hT he
 have ph:(Z7 l).length=l.length:=by simp[Z7]
 have hu:=(Jm hT ht).2; rw[kr]at hu
 have tv:=(Jm hT zb).2; rw[u7]at tv
 have vr:(⟨⟨l⟩⟩:ByteArray).size=l.length:=rfl
 have hm:(Array.mk [s,x]).map a.eval=⟨[.slice A 0 0,Ye l]⟩:=by simp[h.ev ua,h.ev vj,Is]
 have u5:∀v' w1,(Builtin.append_ #[t,t'] ty #[.slice A 0 0,.string ⟨⟨l⟩⟩]).run P w=.ok v' w1→(execOp a.eval ⟨some d,.call ⟨.builtin .append,⟨[s,x]⟩,⟨[t,t']⟩⟩,ty,ps,af,gd⟩).run P w=.ok (.value v') w1:=by
  intro v' w1 hr
  unfold execOp
  simp only[resolve,hm,invoke,builtin]
  simp[hr,Ye]
 by_cases vi:l.length=0
 ·have hl:l=[]:=JX vi
  subst hl
  have ka:(Builtin.append_ #[t,t'] ty #[.slice A 0 0,.string ⟨⟨[]⟩⟩]).run P w=.ok (.slice A 0 0) w:=by
   have z6:(⟨⟨[]⟩⟩:ByteArray).size=0:=rfl
   cases A<;>simp[Builtin.append_,run_underlying hu,run_underlying tv,Go.sizeOf,typeInfo,hi,Builtin.lenOf,Builtin.firstCells,storeCells,z6]
  refine Jl (Kj h hg) (Yo (u5 _ _ ka) ?_)
  exact yy rfl _ (h.put hlt (.v _))
 ·have tg:(Builtin.append_ #[t,t'] ty #[.slice A 0 0,.string ⟨⟨l⟩⟩]).run P w=(Builtin.append_ #[t,t'] ty #[.slice none 0 0,.string ⟨⟨l⟩⟩]).run P w:=by
   have hn:=run_append_nil_string (P:=P) w t t' ty e i (.int .u8 0) hu tv hi (by rw[tj,hz]) ⟨⟨l⟩⟩ (by rw[vr]; omega) (by rw[vr]; omega) (by rw[yo,y9,vr]; omega)
   cases A with
   | none=>rfl
   | some ad =>
    have:=run_append_grow_string (P:=P) w t t' ty e i (.int .u8 0) hu tv hi (by rw[tj,hz]) ad 0 0 [] (by simp) (by simp) ⟨⟨l⟩⟩ (by rw[vr]; omega) (by rw[vr]; omega) (by rw[yo,y9,vr]; exact growslice_fits (by omega) (by omega))
    have e0:(strCells ⟨⟨l⟩⟩).toArray=(List.map (fun b=>Value.int .u8 (b.toNat:Int)) l).toArray:=by simp[strCells]
    rw[this,hn]; simp[e0]
  have h0:=Sb.addNilM h e (Tk .u8)
  obtain⟨v',w1,ka,zm,kp,hblk⟩:=Qcj (P:=P) (w:=w) (ty:=ty) hu tv hi (by rw[tj,hz]) (by rw[ui,ko]) (by rw[yo,y9]) (base:=0) (v:=.slice none 0 0) (n:=0) (xs:=[]) (World.ownsRowS_nil w 0 e 1) ⟨⟨l⟩⟩ (by rw[vr]; omega) (JB _)
  rw[vr]at zm
  refine Jl (Kj h hg) (Yo (u5 _ _ (tg.trans ka)) ?_)
  have xa:∃A' c',v'=.slice A' (0+l.length) c':=by
   rcases zm.2 with⟨rfl,h0⟩ | ⟨g,cap,cur,fz,rfl,_⟩
   ·exact⟨none,0,by rw[h0]⟩
   ·exact⟨_,cap,rfl⟩
  obtain⟨A',c',rfl⟩:=xa
  rw[QE]at zm
  rw[QE]at hblk
  have hS:Sb β X G D H (ml (.slice A' l.length c') e (Tk .u8) (Z7 l)::O) a w1:=by
   refine h0.upd (O1:=[]) rfl kp.os kp.tape kp.output kp.size (fun b hb hn=>kp.block b hb fun e=>hn e.symm) (fun b o hb=>hb) (fun g hg=>?_) fun kq kj=>?_
   ·rcases hblk with zw | ⟨zw,_⟩
    ·exact .inl (by have hg:(Value.slice A' l.length c').ownBlock=some g:=hg; rw[zw]at hg; exact hg)
    ·have hg:(Value.slice A' l.length c').ownBlock=some g:=hg
     rw[zw]at hg; injection hg with hg; exact .inr (by omega)
   ·refine⟨by simp[Zv,ph],strCells ⟨⟨l⟩⟩,(by have q:=zm; simp only[QC]at q; exact q),?_⟩
    rw[Tz]
    exact Qet _
  have:=jr A' c' (a.put (some d) (.slice A' l.length c')) w1
  rw[ph]at this
  rw[QE]
  exact this (hS.put hlt (.v _))
end
section
variable {P:Program} {Y:TX} {X:Cx} {S:XS} {β β':Nat→Nat} {ρ ρ':Nat→Value} {a a':Act} {w w':World} {n:Nat}
variable {ops:Array Oper} {Q:Exit→Act→World→Prop} {rest:List Oper} {R:Type} {k:XS→Option R} {r:R}
theorem Jbq(hT:Q4 P Y.T)(hX:X.n=n)(hr:X.res=[])(h:Rel X β ρ S.flat a w){o:Oper}(hw:Region.wanted o (yielded ops a.tmps)=true){d:Nat}(hd:o.dst=some d)(zl:okW n S d=true){id:Nat}
  (hb:okB ⟨S.env,S.fix,Jv S.mem id,S.fixM,S.prot⟩ d=true)
  {t t':TypeId} {s x:Operand} (kg:o.op=.call ⟨.builtin .append,⟨[s,x]⟩,⟨[t,t']⟩⟩) {te te' ee:TE} {e:TypeId} (ku:Qh Y.T t=some te) (kr:te.d=.slice e) (sq:Qh Y.T t'=some te') (u7:te'.d=.string) (he:Qh Y.T e=some ee)
  (hz:ee.z=.int .u8 0) (ko:ee.size=1) (y9:ee.bytes=1) {l:Str} (hs:S.ev [] s=some (.s id)) (hx:S.ev [] x=some (.d .str l)) {xs zs:List Int} (hm:Qe S.mem id=some (.row e (.int .u8) xs))
  (zu:app 1 xs (Z7 l)=some zs) (hk:k (({ S with mem:=Jv S.mem id }.born d (.row e (.int .u8) zs)).put d [] (.s d))=some r) (H:KOk P ops Q rest X S β ρ k r):wpList P ops Q (o::rest) a w:=by
 obtain⟨f1,f2,f3⟩:=Ge hb
 obtain⟨h1,h2⟩:=Yy zl hX hr
 have hg:=L9 h hw
 have tf:a.eval x=Ye l:=h.toW.str (Qc a) hx rfl
 obtain⟨c1,zk,⟨v0,yw,yb⟩,A,m,c,hρ⟩:=h.ev (Qc a) hs
 subst yw
 have zz:Qe S.flat.mem id=some (.row e (.int .u8) xs):=Q0 hm
 have e4':Jv S.mem id++S.fixM=Jv S.flat.mem id:=(K5 hm).symm
 rcases yb with yb | ⟨vz,A0,yb⟩
 case inr =>
  have ya:a.eval s=.slice A0 0 0:=by rw[zk,←yb]; rfl
  have wt:xs=[]:=by
   have:=(h.ob zz).1.1
   rw[vz]at this
   exact XZ.1 this.symm
  subst wt
  have hR:=h.dropM zz
  rw[Cd o,hd,kg]at hg ⊢
  refine Q53 (a:=a) hT hR.toG hg h1 ku kr sq u7 he hz ko y9 (by rw[gvE h (Qc a) hs,ya]) (by rw[gvE h (Qc a) hx,tf]) zu (fun hz a' hS=>?_) fun A' c' a' w' hS=>?_
  ·subst hz
   rw[←e4']at hS
   exact H β (upd ρ d (.slice none 0 0)) _ _ _ hk ⟨rfl,rfl,rfl,Wi f3 (J0 d β ρ _)⟩ (Qqn (u:=.int .u8) (S:={ S with mem:=Jv S.mem id }) hX hr h.sz zl f1 f2 f3 hS)
  ·rw[←e4']at hS
   refine H β (upd ρ d (.slice A' zs.length c')) _ _ _ hk ⟨rfl,rfl,rfl,Wi f3 (J0 d β ρ _)⟩ ?_
   exact Zy (S:={ S with mem:=Jv S.mem id }) (o:=.row e (.int .u8) zs) hX hr h.sz zl f1 f2 f3 hS (by simp only[Qx,Jd]; exact Wa.refl _) ⟨_,_,_,rfl⟩
 have ya:a.eval s=.slice A m c:=by rw[zk,←hρ,←yb]; rfl
 obtain⟨l1,l2,e1,_,e3⟩:=Jj zz
 have hO:Qg β ρ S.flat.mem=Qg β ρ l1++ml (.slice A m c) e (Tk .u8) xs::Qg β ρ l2:=by rw[e1]; simp[Qg,Qx,hρ,rt]
 rw[Cd o,hd,kg]at hg ⊢
 refine Qqo hT h.toG (Qg β ρ l1) (Qg β ρ l2) hg h1 ku kr sq u7 he hz ko y9 hO (by rw[gvE h (Qc a) hs,ya]) (by rw[gvE h (Qc a) hx,tf]) zu fun A' c' a' w' hS=>?_
 refine H β (upd ρ d (.slice A' zs.length c')) _ _ _ hk ⟨rfl,rfl,rfl,Wi f3 (J0 d β ρ _)⟩ ?_
 have e4:Jv S.mem id++S.fixM=l1++l2:=by rw[←K5 hm]; exact e3
 have hS':=hS.perm (O':=ml (.slice A' zs.length c') e (Tk .u8) zs::Qg β ρ (Jv S.mem id++S.fixM)) (by rw[e4]; simp only[Qg,JK]; exact XK)
 exact Zy (S:={ S with mem:=Jv S.mem id }) (o:=.row e (.int .u8) zs) hX hr h.sz zl f1 f2 f3 hS' (by simp only[Qx,Jd]; exact Wa.refl _) ⟨_,_,_,rfl⟩
theorem Jbr(hT:Q4 P Y.T)(hX:X.n=n)(hr:X.res=[])(h:Rel X β ρ S.flat a w){o:Oper}(hw:Region.wanted o (yielded ops a.tmps)=true){d:Nat}(hd:o.dst=some d)(zl:okW n S d=true)(hb:okB S d=true)
  {t t':TypeId} {s x:Operand} (kg:o.op=.call ⟨.builtin .append,⟨[s,x]⟩,⟨[t,t']⟩⟩) {te te' ee:TE} {e:TypeId} (ku:Qh Y.T t=some te) (kr:te.d=.slice e) (sq:Qh Y.T t'=some te') (u7:te'.d=.string) (he:Qh Y.T e=some ee)
  (hz:ee.z=.int .u8 0) (ko:ee.size=1) (y9:ee.bytes=1) {l:Str} (hs:S.ev [] s=some .ns) (hx:S.ev [] x=some (.d .str l)) {zs:List Int}
  (zu:app 1 [] (Z7 l)=some zs) (hk:k ((S.born d (.row e (.int .u8) zs)).put d [] (.s d))=some r) (H:KOk P ops Q rest X S β ρ k r):wpList P ops Q (o::rest) a w:=by
 obtain⟨f1,f2,f3⟩:=Ge hb
 obtain⟨h1,h2⟩:=Yy zl hX hr
 have hg:=L9 h hw
 have tf:a.eval x=Ye l:=h.toW.str (Qc a) hx rfl
 obtain⟨c1,zk,yw⟩:=h.ev (Qc a) hs
 have fa:c1=_:=yw
 subst fa
 have ya:a.eval s=.slice none 0 0:=zk
 have uc:Sb (fun _=>0) X (Qio X.n a) (S.flat.env.map (enD β ρ a)) [] (ml (.slice none 0 0) e (Tk .u8) []::Qg β ρ S.flat.mem) a w:=Sb.addNilM h.toG e (Tk .u8)
 rw[Cd o,hd,kg]at hg ⊢
 refine Qqo hT uc [] (Qg β ρ S.flat.mem) hg h1 ku kr sq u7 he hz ko y9 rfl (by rw[gvE h (Qc a) hs,ya]) (by rw[gvE h (Qc a) hx,tf]) zu fun A' c' a' w' hS=>?_
 refine H β (upd ρ d (.slice A' zs.length c')) _ _ _ hk (U4 f3 (J0 d β ρ _) _ _ _) ?_
 exact Zy (o:=.row e (.int .u8) zs) hX hr h.sz zl f1 f2 f3 hS (by simp only[Qx,Jd]; exact Wa.refl _) ⟨_,_,_,rfl⟩
theorem Q54(hT:Q4 P Y.T)(hX:X.n=n)(hr:X.res=[])(h:Rel X β ρ S.flat a w){o:Oper}(hw:Region.wanted o (yielded ops a.tmps)=true){d:Nat}(hd:o.dst=some d)(zl:okW n S d=true)(hb:okB S d=true)
  {s t:TypeId} {x:Operand} (kg:o.op=.convert s t x) {se te ee:TE} {e:TypeId} (zk:Qh Y.T s=some se) (ku:Qh Y.T t=some te) (kr:te.d=.slice e) (he:Qh Y.T e=some ee) (hed:ee.d=.int .u8)
  {l:Str} (hx:S.ev [] x=some (.d .str l)) {zs:List Int} (zu:app 1 [] (Z7 l)=some zs) (hk:k ((S.born d (.row e (.int .u8) zs)).put d [] (.s d))=some r) (H:KOk P ops Q rest X S β ρ k r):wpList P ops Q (o::rest) a w:=by
 obtain⟨f1,f2,f3⟩:=Ge hb
 obtain⟨h1,h2⟩:=Yy zl hX hr
 have tf:a.eval x=Ye l:=h.toW.str (Qc a) hx rfl
 obtain⟨zh,xf⟩:=Qj0 zu
 simp only[QC]at xf
 subst xf
 have ph:(Z7 l).length=l.length:=by simp[Z7]
 have vr:(⟨⟨l⟩⟩:ByteArray).size=l.length:=rfl
 have qw:=(Jm hT zk).2
 have l8:=(Jm hT ku).2; rw[kr]at l8
 have im:=(Jm hT he).2; rw[hed]at im
 have wk:=run_convert_string_bytes (P:=P) w s t e ⟨⟨l⟩⟩ qw l8 im
 have ka:(execOp a.eval o).run P w=.ok (.value (.slice (some ⟨w.heap.size,0,none⟩) l.length (grownCap w l.length 0 e))) (bytesWorld w e ⟨⟨l⟩⟩):=by
  unfold execOp
  rw[kg]
  simp only[tf,Ye]
  rw[Sem.run_bind,wk]
  rfl
 refine Jl hw (Yo ka ?_)
 have wx:=grownCap_ge w l.length 0 e
 have xh:grownCap w l.length 0 e≤maxLen:=grownCap_le_maxLen w l.length 0 e (by rw[Lx]; simp only[JO,QE,KD]at zh; omega)
 have pf:(bytesCells w e ⟨⟨l⟩⟩).size=grownCap w l.length 0 e:=by
  simp only[bytesCells,KV,Array.size_map,VT,vr]
  have:(⟨l⟩:Array UInt8).size=l.length:=rfl
  omega
 have kb:(bytesWorld w e ⟨⟨l⟩⟩).ownsRowS 0 e 1 (.slice (some ⟨w.heap.size,0,none⟩) l.length (grownCap w l.length 0 e)) l.length (strCells ⟨⟨l⟩⟩):=by
  refine⟨by rw[strCells_length,vr,KD],.inr ⟨w.heap.size,_,_,_,rfl,JB _,bytesWorld_at_new w e ⟨⟨l⟩⟩,.inr rfl,wx,xh,by rw[pf,KD]; exact QD _,?_⟩⟩
  simp only[bytesCells,KP,KD]
  rw[ZC (by simp),JP (by simp)]
  simp[strCells]
 have zo:=Q05 w e ⟨⟨l⟩⟩
 have hS:=Sb.allocTL h.toG zo (t:=ml (.slice (some ⟨w.heap.size,0,none⟩) l.length (grownCap w l.length 0 e)) e (Tk .u8) (Z7 l)) (fun g hg=>by
  have hg:some w.heap.size=some g:=hg
  injection hg with hg; omega) ⟨by simp[Zv,ph],_,kb,by rw[Tz]; exact Qet _⟩
 rw[hd]
 refine H β (upd ρ d (.slice (some ⟨w.heap.size,0,none⟩) l.length (grownCap w l.length 0 e))) _ _ _ hk (U4 f3 (J0 d β ρ _) _ _ _) ?_
 exact Zy (o:=.row e (.int .u8) (Z7 l)) hX hr h.sz zl f1 f2 f3 (hS.put h1 (.v _)) (by simp only[Qx,Jd]; exact Wa.refl _) ⟨_,_,_,rfl⟩
end
end Gx

/- The builtin copy. -/
namespace Gx
open Go Go.RowKit Gd
set_option linter.unusedVariables false
set_option linter.unusedSimpArgs false
theorem Quk{τ:Type}{r:RT τ}{ok:Ok}{w:World}:∀{xs:List τ} {cs:List Value} (k:Nat),Kc r ok w xs cs→Kc r ok w (xs.drop k) (cs.drop (k*r.size))
 | xs,cs,0,h=>by simpa using h
 | [],cs,k+1,h=>by
  have h':cs=[]:=h
  subst h'
  simp[Kc]
 | x::xs,cs,k+1,⟨c1,c2,e,h1,h2⟩=>by
  have hl:=r.len h1
  subst e
  have e2:(c1++c2).drop ((k+1)*r.size)=c2.drop (k*r.size):=by
   rw[List.drop_append,VC (by rw[hl,QP]; omega),QC,hl]
   congr 1
   rw[QP]; omega
  rw[e2]
  simpa using Quk k h2
theorem Qul{τ:Type}{r:RT τ}{ok:Ok}{w:World}:∀{xs:List τ} {cs:List Value} (k:Nat),Kc r ok w xs cs→Kc r ok w (xs.take k) (cs.take (k*r.size))
 | xs,cs,0,h=>by simp[Kc]
 | [],cs,k+1,h=>by
  have h':cs=[]:=h
  subst h'
  simp[Kc]
 | x::xs,cs,k+1,⟨c1,c2,e,h1,h2⟩=>by
  have hl:=r.len h1
  subst e
  refine⟨c1,c2.take (k*r.size),?_,h1,Qul k h2⟩
  rw[KE,JP (by rw[hl,QP]; omega),hl]
  congr 2
  rw[QP]; omega
theorem Jmk{P:Program}{w:World}(a:Addr)(cs:List Value)(k:Nat)(hk:cs.length=k)(h:∀j v,cs[j]?=some v→w.cell? (a.add j)=some v):(loadCells a k).run P w=.ok cs.toArray w:=by
 subst hk; exact run_loadCells_list w a cs h
section
variable {P:Program} {w:World} {dT sT ty elem:TypeId} {i:TypeInfo}
theorem Jbs(hu:P.underlying dT=some (.slice elem))(hi:P.info? elem=some i){d a:Option Addr}{dLen dCap sLen sCap:Nat}(hn:Nat.min sLen dLen=0) :
  (Builtin.copy_ #[dT,sT] ty #[.slice d dLen dCap,.slice a sLen sCap]).run P w=.ok (goInt 0) w:=by
 have hl:∀(x:Addr),(loadCells x 0).run P w=.ok #[] w:=fun x=>Jmk x [] 0 rfl (by simp)
 cases d<;>cases a<;>simp[Builtin.copy_,run_underlying hu,Builtin.lenOf,Builtin.firstCells,Go.sizeOf,typeInfo,hi,hn,storeCells,hl]
theorem Jbt(hu:P.underlying dT=some (.slice elem))(hi:P.info? elem=some i){g dLen dCap sLen sCap:Nat}{a:Addr}{cur:Array Value}{t:TypeId}{fz:Nat×Nat}{cs:List Value}(hg:w.heap[g]?=some (.cells cur t fz))(yk:Qwo fz cur.size)
  (hn:cs.length=Nat.min sLen dLen*i.size) (hsrc:∀j v,cs[j]?=some v→w.cell? (a.add j)=some v) (ti:cs.length≤cur.size) (h1:∀v∈cs,v.oneCell'=true) :
  (Builtin.copy_ #[dT,sT] ty #[.slice (some ⟨g,0,none⟩) dLen dCap,.slice (some a) sLen sCap]).run P w=.ok (goInt (Nat.min sLen dLen:Nat)) (w.setRow g (cs++cur.toList.drop cs.length).toArray):=by
 have hl:=Jmk (P:=P) (w:=w) a cs _ hn hsrc
 have zg:=Uz P g 0 t fz cs 0 cur w hg yk (by simpa using ti) h1
 simp only[ZD,QE,ZA,QC]at zg
 simp[Builtin.copy_,run_underlying hu,Builtin.lenOf,Builtin.firstCells,Go.sizeOf,typeInfo,hi,hl,zg]
end
section
variable {P:Program} {Y:TX} {X:Cx} {S:XS} {β β':Nat→Nat} {ρ ρ':Nat→Value} {a a':Act} {w w':World} {n:Nat}
variable {ops:Array Oper} {Q:Exit→Act→World→Prop} {rest:List Oper} {R:Type} {k:XS→Option R} {r:R}
theorem Jpi(hT:Q4 P Y.T)(hX:X.n=n)(hr:X.res=[])(h:Rel X β ρ S.flat a w){o:Oper}(hw:Region.wanted o (yielded ops a.tmps)=true){d:Nat}(hd:o.dst=some d)(zl:okW n S d=true){t t':TypeId}{dst src:Operand}
  (kg:o.op=.call ⟨.builtin .copy,⟨[dst,src]⟩,⟨[t,t']⟩⟩) {te ee:TE} {e:TypeId} (ku:Qh Y.T t=some te) (kr:te.d=.slice e) (he:Qh Y.T e=some ee) {id:Nat} {xv:AV} {et:TypeId} {u:Ty} {xs ys:List u.De} (hs:S.ev [] dst=some (.s id)) (hx:S.ev [] src=some xv)
  (hm:Qe S.mem id=some (.row et u xs)) (hy:asD S.flat.mem xv (.sl u)=some ys) (ko:Nat.beq ee.size u.size=true) (zq:Nat.ble 1 u.size=true)
  (hk:k ((S.set id (.row et u (A7 xs ys))).put d [] (.d (.int .i64) (Qfu xs ys)))=some r) (H:KOk P ops Q rest X S β ρ k r):wpList P ops Q (o::rest) a w:=by
 obtain⟨h1,h2⟩:=Yy zl hX hr
 have zz:Qe S.flat.mem id=some (.row et u xs):=Q0 hm
 obtain⟨l1,l2,e1,e2,e3⟩:=Jj zz
 obtain⟨c1,zk,⟨v0,yw,yb⟩,A,m,c,hρ⟩:=h.ev (Qc a) hs
 subst yw
 have xg:(Ty.sl u).agg=xv.isAgg:=by
  cases xv with
  | d t' y'=>obtain⟨rfl,_⟩:=Ty.cast_ok (by simpa only[asD]using hy); rfl
  | ag l=>simp[asD]at hy
  | _=>rfl
 have nz:=h.toW.asD (Qc a) hx hy xg
 obtain⟨A2,c2,yx,uo⟩:=Qjz (r:=rt u) nz
 obtain⟨cs,xl,vk,hyc,hA2,mf,fb,hc4⟩:=N1 (Z5.1 uo)
 obtain⟨i,hi,_,his,_⟩:=W7 hT he
 have hu:=(Jm hT ku).2; rw[kr]at hu
 have hsu:=QJ ko
 obtain⟨⟨vi,cs0,xr,jz⟩,_⟩:=h.ob zz
 have hO:Qg β ρ S.flat.mem=Qg β ρ l1++ml (ρ id) et (rt u) xs::Qg β ρ l2:=by rw[e1]; simp[Qg,Qx]
 have jt:∀w1,Sb (fun _=>0) X [] (S.flat.env.map (enD β ρ a)) [] (Qg β ρ l1++ml (ρ id) et (rt u) (A7 xs ys)::Qg β ρ l2) a w1→wpList P ops Q rest (a.put (some d) (goInt (Qfu xs ys))) w1:=by
  intro w1 hS
  have hE:(S.set id (.row et u (A7 xs ys))).flat=⟨S.flat.env,Nv S.flat.mem id (.row et u (A7 xs ys))⟩:=by
   simp only[XS.flat,XS.set]
   rw[K4 hm]
  refine H β ρ ((S.set id (.row et u (A7 xs ys))).put d [] (.d (.int .i64) (Qfu xs ys))) _ _ hk ⟨rfl,rfl,rfl,agP.refl _ _ _⟩ ?_
  have ke:Qg β ρ (l1++(id,Ob.row et u (A7 xs ys))::l2)=Qg β ρ l1++ml (ρ id) et (rt u) (A7 xs ys)::Qg β ρ l2:=by simp[Qg,Qx]
  have hRel:Rel X β ρ (S.set id (.row et u (A7 xs ys))).flat a w1:=by
   rw[hE,e2]
   exact Rel.ofSb hS ke.symm fun e he=>by
    have:=Jg.1 hS.dat _ (QY.2 ⟨e,he,rfl⟩)
    rw[←ke]at this
    exact this
  have:=hRel.put0 h1 (x:=.d (.int .i64) (Qfu xs ys)) (c:=[.int .i64 (Qfu xs ys)]) rfl
  rw[←Xs (S:=S.set id (.row et u (A7 xs ys))) h2]at this
  exact this
 have uk:∀v,a.eval dst=v→(execOp a.eval o).run P w=((Builtin.copy_ #[t,t'] o.type #[v,.slice A2 ys.length c2]).run P w).andThen fun v w'=>.ok (.value v) w':=by
  intro v hv
  unfold execOp
  have fc:(Array.mk [dst,src]).map a.eval=⟨[v,.slice A2 ys.length c2]⟩:=by simp[hv,yx]
  simp only[kg,resolve,fc,invoke,builtin]
  simp
 have hzero:∀v A' m' c',a.eval dst=v→v=.slice A' m' c'→Nat.min ys.length m'=0→Nat.min ys.length xs.length=0→wpList P ops Q (o::rest) a w:=by
  intro v A' m' c' hv ux qm hn1
  refine Jl hw (Yo (w':=w) (v:=goInt 0) (by rw[uk v hv,ux,Jbs hu hi qm]; rfl) ?_)
  rw[hd]
  have hcl0:A7 xs ys=xs:=by unfold A7; rw[hn1]; simp
  have hcn0:Qfu xs ys=0:=by unfold Qfu; rw[hn1]; rfl
  have:=jt w
  rw[hcl0,hcn0,←hO]at this
  exact this h
 rcases yb with yb | ⟨vz,A0,yb⟩
 case inr =>
  have ya:a.eval dst=.slice A0 0 0:=by rw[zk,←yb]; rfl
  have wt:xs.length=0:=by rw[vz]at vi; exact vi.symm
  exact hzero _ A0 0 0 ya rfl (by simp[WQ]) (by rw[wt]; simp[WQ])
 have ya:a.eval dst=.slice A m c:=by rw[zk,←hρ,←yb]; rfl
 have ra:m=xs.length:=by rw[hρ]at vi; exact vi
 by_cases qm:Nat.min ys.length xs.length=0
 ·exact hzero _ A m c ya rfl (by rw[ra]; exact qm) qm
 have a7:0<ys.length:=by have:=Nat.min_le_left ys.length xs.length; simp only[WQ]at qm; split at qm<;>omega
 have hxpos:0<xs.length:=by simp only[WQ]at qm; split at qm<;>omega
 obtain⟨b2,o2,rfl,yg⟩:=fb a7
 rcases xr.2 with⟨hv,hn⟩ | ⟨g,cap,cur,fz,hv,_,hh,yk,hle,xh,zr,vn⟩
 ·rw[hρ]at hv; injection hv with _ hv _
  omega
 rw[hρ]at hv
 injection hv with hA sn vo
 subst hA
 have ve:Zv (ρ id)=xs.length:=vi
 rw[ve]at hle vn
 have husz:(rt u).size=u.size:=Ji u
 have hisz:i.size=(rt u).size:=by rw[his,hsu,husz]
 have hnle:Nat.min ys.length xs.length≤xs.length:=Nat.min_le_right _ _
 have a8:Nat.min ys.length xs.length≤ys.length:=Nat.min_le_left _ _
 generalize ey:Nat.min ys.length xs.length=k0 at *
 have hkm:k0*(rt u).size≤xs.length*(rt u).size:=JG _ hnle
 have hkm2:k0*(rt u).size≤ys.length*(rt u).size:=JG _ a8
 have hmc:xs.length*(rt u).size≤cap*(rt u).size:=JG _ hle
 have pj:(cs.take (k0*(rt u).size)).length=k0*(rt u).size:=by rw[QO,xl]; omega
 have hcsl:cap*(rt u).size≤cur.toList.length:=by simpa using zr
 have zg:=Jbt (P:=P) (w:=w) (dT:=t) (sT:=t') (ty:=o.type) hu hi (dLen:=m) (dCap:=c) (sLen:=ys.length) (sCap:=c2) (a:=⟨b2,o2,none⟩) (cs:=cs.take (k0*(rt u).size)) hh yk (by rw[pj,ra,ey,hisz]) (fun j v hj=>by
   rw[Hy]
   refine(yg j v ?_).2
   rw[JD]at hj
   split at hj
   ·exact hj
   ·cases hj) (by rw[pj]; omega) (fun v hv=>mf v (WJ hv))
 refine Jl hw (Yo (w':=w.setRow g (cs.take (k0*(rt u).size)++cur.toList.drop (cs.take (k0*(rt u).size)).length).toArray) (v:=goInt (Qfu xs ys)) (by rw[uk _ ya,zg]; simp only[Qfu,ra,ey]; rfl) ?_)
 rw[hd]
 have wa:=setRow_heap w g cur (cs.take (k0*(rt u).size)++cur.toList.drop (cs.take (k0*(rt u).size)).length).toArray et _ hh
 have sr:(cs.take (k0*(rt u).size)++cur.toList.drop (cs.take (k0*(rt u).size)).length).length=cur.toList.length:=by
  rw[QI,JV,pj]; omega
 have hlenC:(A7 xs ys).length=xs.length:=by
  unfold A7
  rw[ey,QI,QO,JV]; omega
 have zp:Kc (rt u) (Jf X.ok X.w.heap.size (fun _=>0) [] (Qg β ρ S.flat.mem) w) w (ys.take k0) (cs.take (k0*(rt u).size)):=by
  have zi:Kc (rt u) (Jf X.ok X.w.heap.size (fun _=>0) [] (Qg β ρ S.flat.mem) w) w ys cs:=Qh3 ys cs xl hc4
  exact Qul k0 zi
 have hS:=Sb.upd h (O1:=Qg β ρ l1) (O2:=Qg β ρ l2) (t:=ml (ρ id) et (rt u) xs) (t':=ml (ρ id) et (rt u) (A7 xs ys)) (w':=w.setRow g (cs.take (k0*(rt u).size)++cur.toList.drop (cs.take (k0*(rt u).size)).length).toArray) hO rfl rfl rfl (by simp)
  (fun b hb hn=>setRow_other _ _ _ _ fun e=>hn (by subst e; show(ρ id).ownBlock=_; rw[hρ]; rfl)) (fun b o hb=>hb) (fun g hg=>.inl hg) fun kq kj=>by
   refine⟨by rw[ve,hlenC],_,⟨?_,.inr ⟨g,cap,_,fz,by rw[hρ,vo]; rfl,JB _,wa,by rw[XW,sr]; simpa using yk,by rw[ve]; exact hle,xh,by rw[XW,sr]; exact hcsl,rfl⟩⟩,?_⟩
   ·rw[ve]
    show(List.take (xs.length*(rt u).size) (cs.take (k0*(rt u).size)++cur.toList.drop (cs.take (k0*(rt u).size)).length)).length=_
    rw[QO,sr]; omega
   ·rw[ve]
    show Kc (rt u) _ _ (A7 xs ys) (List.take (xs.length*(rt u).size) (cs.take (k0*(rt u).size)++cur.toList.drop (cs.take (k0*(rt u).size)).length))
    have e5:List.take (xs.length*(rt u).size) (cs.take (k0*(rt u).size)++cur.toList.drop (cs.take (k0*(rt u).size)).length)=cs.take (k0*(rt u).size)++(cs0.drop (k0*(rt u).size)):=by
     rw[KE,pj,JP (by rw[pj]; exact hkm),←vn,KG]
    rw[e5]
    have h6:=N2 (X5 (Fv zp kq) kj) (X5 (Fv (Quk k0 jz) kq) kj)
    have e6:A7 xs ys=ys.take k0++xs.drop k0:=by unfold A7; rw[ey]
    rw[←e6]at h6
    exact h6
 exact jt _ hS
end
end Gx

/- A key is taken out of a map; the beginning of a row of one's own. -/
namespace Gx
open Go Go.RowKit Gd
set_option linter.unusedVariables false
set_option linter.unusedSimpArgs false
section
variable {P:Program} {T:Tab}
theorem Qxj(hT:Q4 P T){kt:TypeId}{te:TE}(ht:Qh T kt=some te){k:Ty}(h:Yu T k te.d=true)(key:k.De){ν:Type}{s:RT ν}{ok:Ok}{w:World}:∀{xs:List (k.De×ν)} {es:List MapEntry},Xq (rt k) s ok w xs es →
  (Qr key xs=none∧Lh key xs=xs) ∨
  (∃(j:Nat) (e:MapEntry),(∀i,(Instr.findAsking kt (Yf k key) es i).run P w=.ok (some (i+j,e.val)) w)∧es[j]?=some e∧Xq (rt k) s ok w (Lh key xs) (es.eraseIdx j))
 | [],es,hp=>.inl ⟨rfl,rfl⟩
 | x::xs,es,hp=>by
  obtain⟨e,es',rfl,h1,h2,h3⟩:=hp
  have hk:=Ga (Jy h) h1
  have heq:=L2 hT ht h key x.1 w
  simp only[Lh,Qr,Instr.findAsking,Sem.run_bind,hk,heq,Result.andThen_ok]
  cases he:eqK k key x.1 with
  | true=>exact .inr ⟨0,e,by simp,rfl,h3⟩
  | false =>
   rcases Qxj hT ht h key h3 with⟨q1,q2⟩ | ⟨j,e',q2,q3,q5⟩
   ·exact .inl ⟨q1,by simp only[cond_false,q2]⟩
   ·exact .inr ⟨j+1,e',fun i=>by rw[show i+(j+1)=i+1+j by omega]; simpa using q2 (i+1),q3,⟨e,_,rfl,h1,h2,q5⟩⟩
theorem Q06{k:Ty}{ν:Type}(key:k.De):∀{xs:List (k.De×ν)},(Lh key xs).Sublist xs
 | []=>List.Sublist.refl _
 | x::xs=>by
  simp only[Lh]
  cases eqK k key x.1 with
  | true=>exact(List.Sublist.refl _).cons _
  | false=>exact(Q06 key).cons_cons _
theorem Q55(hT:Q4 P T){t kt et:TypeId}{te tk:TE}(ht:Qh T t=some te)(kr:te.d=.map kt et)(hk:Qh T kt=some tk)
  {k:Ty} {ν:Type} {s:RT ν} (hd:Yu T k tk.d=true) {ok:Ok} {w:World} {g:Nat} {es:Array MapEntry} {clock:Nat} (hg:w.heap[g]?=some (.map es clock)) {xs:List (k.De×ν)} (hp:Xq (rt k) s ok w xs es.toList) (zg:Fy es clock) (key:k.De) (kt' ty:TypeId) :
  ∃es',(Builtin.delete_ #[t,kt'] ty #[.map (some g),Yf k key]).run P w=.ok (.tuple #[]) { w with heap:=w.heap.setIfInBounds g (.map es' clock) }∧Xq (rt k) s ok w (Lh key xs) es'.toList∧Fy es' clock:=by
 have hu:=(Jm hT ht).2
 rw[kr]at hu
 rcases Rr hT hk hd key w hp with⟨q1,q2⟩ | ⟨j,e,y,q1,q2,q3,q4,q5⟩
 ·refine⟨es,?_,?_,zg⟩
  ·simp[Builtin.delete_,run_underlying hu,MapKept.run_getObj_map hg,Xb hT hk hd,q2,MapKept.run_setObj_map _ hg,Result.andThen]
  ·rcases Qxj hT hk hd key hp with⟨_,r2⟩ | ⟨j,e,r1,r2,r3⟩
   ·rw[r2]; exact hp
   ·have r4:=r1 0
    have:=L4 hT hk hd key w hp r4
    rw[q2]at this
    injection this with this; cases this
 ·rcases Qxj hT hk hd key hp with⟨r1,_⟩ | ⟨j',e',r1,r2,r3⟩
  ·rw[q1]at r1; cases r1
  ·have r4:=r1 0
   have:=L4 hT hk hd key w hp r4
   rw[q2]at this
   injection this with this
   simp only[Option.some.injEq,Prod.mk.injEq]at this
   have hj:j=j':=by omega
   subst hj
   have hlt:j<es.size:=by have:=(QK.1 q3).1; simpa using this
   have hl:(es.eraseIdxIfInBounds j).toList=es.toList.eraseIdx j:=by
    unfold Array.eraseIdxIfInBounds
    rw[dif_pos hlt,Array.toList_eraseIdx]
   refine⟨es.eraseIdxIfInBounds j,?_,by rw[hl]; exact r3,?_,fun e he=>?_⟩
   ·simp[Builtin.delete_,run_underlying hu,MapKept.run_getObj_map hg,Xb hT hk hd,q2,MapKept.run_setObj_map _ hg,Result.andThen]
   ·rw[hl]
    exact zg.1.sublist ((VN _ _).map _)
   ·rw[hl]at he
    exact zg.2 e ((VN _ _).subset he)
end
section
variable {P:Program} {Y:TX} {X:Cx} {S:XS} {β β':Nat→Nat} {ρ ρ':Nat→Value} {a a':Act} {w w':World} {n:Nat}
variable {ops:Array Oper} {Q:Exit→Act→World→Prop} {rest:List Oper} {R:Type} {k:XS→Option R} {r:R}
theorem Jga(hT:Q4 P Y.T)(h:Rel X β ρ S.flat a w){o:Oper}(hw:Region.wanted o (yielded ops a.tmps)=true){t t':TypeId}{m ky:Operand}(kg:o.op=.call ⟨.builtin .delete,⟨[m,ky]⟩,⟨[t,t']⟩⟩)(hd:o.dst=none){te tk:TE}{kt et:TypeId}(ku:Qh Y.T t=some te)(kr:te.d=.map kt et)(yu:Qh Y.T kt=some tk)
  {id:Nat} {kv:AV} {kk v:Ty} {xs:List (kk.De×v.De)} {key:kk.De} (hm:S.ev [] m=some (.m id)) (vt:S.ev [] ky=some kv) (xt:Qe S.mem id=some (.map kk v xs)) (yf:asD [] kv kk=some key)
  (wh:Yu Y.T kk tk.d=true) (rz:(kk.agg==kv.isAgg)=true)
  (hk:k (S.set id (.map kk v (Lh key xs)))=some r) (H:KOk P ops Q rest X S β ρ k r):wpList P ops Q (o::rest) a w:=by
 obtain⟨c1,h1,h2⟩:=h.ev (Qc a) hm
 have zj:c1=[.map (some (β id))]:=h2
 subst zj
 have k5:a.eval m=.map (some (β id)):=h1
 obtain⟨c3,h3,h4⟩:=h.ev (Qc a) vt
 have mn:isV (rt kk) (okR X β ρ S.flat.mem w) w key (a.eval ky):=by
  refine⟨c3,Z6 (M:=[]) (β:=β) (ρ:=ρ) (by simp[Qe]) yf h4,?_⟩
  rw[h3]; simp only[AV.val,RT.val,B7,bEq rz]; cases kv.isAgg<;>rfl
 have pg:=Ga (Jy wh) mn
 have zz:Qe S.flat.mem id=some (.map kk v xs):=Q0 xt
 obtain⟨⟨es,clock,hg,hp,ye,sf,sg⟩,zd⟩:=h.ob zz
 obtain⟨es',ka,xm,wi⟩:=Q55 hT ku kr yu wh hg hp ⟨sf,sg⟩ key t' o.type
 have z8:(execOp a.eval o).run P w=.ok (.value (.tuple #[])) { w with heap:=w.heap.setIfInBounds (β id) (.map es' clock) }:=by
  unfold execOp
  have fc:(Array.mk [m,ky]).map a.eval=⟨[.map (some (β id)),Yf kk key]⟩:=by simp[k5,pg]
  simp only[kg,resolve,fc,invoke,builtin]
  simp[ka]
 refine Jl hw (Yo z8 ?_)
 rw[hd]
 have hO':=Jj zz
 obtain⟨l1,l2,e1,e2,e3⟩:=hO'
 have hO:Qg β ρ S.flat.mem=Qg β ρ l1++Qx β ρ id (.map kk v xs)::Qg β ρ l2:=by rw[e1]; simp[Qg]
 have hS:=h.upd hO (t':=Qx β ρ id (.map kk v (Lh key xs))) (w':={ w with heap:=w.heap.setIfInBounds (β id) (.map es' clock) }) rfl rfl rfl (by simp) (fun b hb hn=>(MapKept.heap_set hg).2 b fun e=>hn e) (fun b o hb=>hb) (fun g hg=>.inl hg) (fun kq kj=>by
  refine⟨es',clock,(MapKept.heap_set hg).1,?_,ye.sublist ((Q06 key).map _),wi.1,wi.2⟩
  exact Vq (W9 xm kq) kj)
 have hE:(S.set id (.map kk v (Lh key xs))).flat=⟨S.flat.env,Nv S.flat.mem id (.map kk v (Lh key xs))⟩:=by
  simp only[XS.flat,XS.set]
  rw[K4 xt]
 refine H β ρ _ _ _ hk ⟨rfl,rfl,rfl,agP.refl _ _ _⟩ ?_
 rw[hE,e2]
 have ke:Qg β ρ (l1++(id,Ob.map kk v (Lh key xs))::l2)=Qg β ρ l1++Qx β ρ id (.map kk v (Lh key xs))::Qg β ρ l2:=by simp[Qg]
 exact Rel.ofSb hS ke.symm fun e he=>by
  have:=Jg.1 hS.dat _ (QY.2 ⟨e,he,rfl⟩)
  rw[←ke]at this
  exact this
theorem Jgb(hT:Q4 P Y.T)(hX:X.n=n)(hr:X.res=[])(h:Rel X β ρ S.flat a w){o:Oper}(hw:Region.wanted o (yielded ops a.tmps)=true){d:Nat}(hd:o.dst=some d)(zl:okW n S d=true){id:Nat}
  (hb:okB ⟨S.env,S.fix,Jv S.mem id,S.fixM,S.prot⟩ d=true) {t:TypeId} {x:Operand} {hi mx:Option Operand} (kg:o.op=.slice t x none hi mx) {te ee:TE} {e:TypeId} (ku:Qh Y.T t=some te) (kr:te.d=.slice e) (he:Qh Y.T e=some ee) {u:Ty} (ko:Nat.beq ee.size u.size=true)
  {xs ys:List u.De} (hx:S.ev [] x=some (.s id)) (hm:Qe S.mem id=some (.row e u xs)) {q:Int} (hq:bnd S.flat [] xs.length hi=some q) (zp:slc xs 0 q=some ys)
  (ra:mx=none∨∃hv mv k1 k2 m,hi=some hv∧mx=some mv∧a.eval hv=.int k1 q∧a.eval mv=.int k2 m∧q≤m∧m≤(xs.length:Int))
  (hk:k (({ S with mem:=Jv S.mem id }.born d (.row e u ys)).put d [] (.s d))=some r) (H:KOk P ops Q rest X S β ρ k r):wpList P ops Q (o::rest) a w:=by
 obtain⟨f1,f2,f3⟩:=Ge hb
 obtain⟨h1,h2⟩:=Yy zl hX hr
 have hg:=L9 h hw
 obtain⟨c1,zk,⟨v0,yw,yb⟩,A,m,c,hρ⟩:=h.ev (Qc a) hx
 subst yw
 have zz:Qe S.flat.mem id=some (.row e u xs):=Q0 hm
 have e4':Jv S.mem id++S.fixM=Jv S.flat.mem id:=(K5 hm).symm
 obtain⟨h0,hq1,ek,pc,vk⟩:=slc_ok zp
 have hysT:ys=xs.take q.toNat:=by rw[pc]; simp
 have wq:(underlying t).run P w=.ok (.slice e) w:=by rw[Jx hT w ku,kr]
 obtain⟨⟨vi,cs0,xr,jz⟩,zd⟩:=h.ob zz
 have tn:=QJ ko
 have jt:∀(A':Option Addr) (c':Nat),a.eval x=.slice A' xs.length c'→xs.length≤c'→(c'≠0→∀ad,A'=some ad→ad.add 0=ad)→∃c2,ys.length≤c2∧c2≤c'∧(execOp a.eval o).run P w=.ok (.value (.slice A' ys.length c2)) w:=by
  intro A' c' hv yg xk
  obtain⟨c2,mg,fb,hbn⟩:∃c2,ys.length≤c2∧c2≤c'∧(Instr.sliceBounds true xs.length c' none (hi.map a.eval) (mx.map a.eval)).run P w=.ok (0,q.toNat,c2) w:=by
   rcases ra with rfl | ⟨mu,mv,k1,k2,m,rfl,rfl,e1,e2,e3,e5⟩
   ·exact⟨c',by omega,QD _,N6 (P:=P) (w:=w) (isS:=true) (lo:=none) (len:=xs.length) (cap:=c') (.inl ⟨rfl,rfl⟩) (h.toW.bnd (Qc a) hq) (KL 0) hq1 (by omega) yg⟩
   ·exact⟨m.toNat,by omega,by omega,Ql9 (P:=P) (w:=w) (lo:=none) (len:=xs.length) (cap:=c') (.inl ⟨rfl,rfl⟩) e1 e2 (KL 0) hq1 e3 (by omega)⟩
  refine⟨c2,mg,fb,?_⟩
  have hA':(if c2=0 then A' else A'.map (·.add (0*u.size)))=A':=by
   split
   ·rfl
   ·rename_i uj
    cases A' with
    | none=>rfl
    | some ad=>rw[XB]; simp[xk (by omega) ad rfl]
  have hlen:q.toNat - 0=ys.length:=by omega
  unfold execOp
  rw[kg]
  simp only[hv]
  simp[Instr.sliceAt,wq,Instr.slice,hbn,J6 hT w he,tn,hlen]
  simpa using hA'
 rcases yb with yb | ⟨vz,A0,yb⟩
 case inr =>
  have ya:a.eval x=.slice A0 0 0:=by rw[zk,←yb]; rfl
  have wt:xs=[]:=by
   rw[vz]at vi
   exact XZ.1 vi.symm
  subst wt
  have hy0:ys=[]:=by rw[hysT]; simp
  subst hy0
  obtain⟨c2,_,fb,ka⟩:=jt A0 0 ya (QD _) (fun h=>absurd rfl h)
  have uj:c2=0:=by omega
  subst uj
  refine Jl hw (Yo ka ?_)
  rw[hd]
  have hS:=(h.dropM zz).toG.put h1 (.v (.slice A0 0 0))
  rw[←e4']at hS
  exact H β (upd ρ d (.slice none 0 0)) _ _ _ hk ⟨rfl,rfl,rfl,Wi f3 (J0 d β ρ _)⟩ (Qqn (S:={ S with mem:=Jv S.mem id }) hX hr h.sz zl f1 f2 f3 hS)
 have ya:a.eval x=.slice A m c:=by rw[zk,←hρ,←yb]; rfl
 have ra:m=xs.length:=by rw[hρ]at vi; exact vi
 subst ra
 have ve:Zv (ρ id)=xs.length:=by rw[hρ]; rfl
 rw[ve,hρ]at xr
 have vo:xs.length≤c∧(c≠0→∀ad,A=some ad→ad.add 0=ad):=by
  rcases xr.2 with⟨hv,h0⟩ | ⟨g,cap,cur,fz,hv,_,_,_,hle,_⟩
  ·injection hv with e1 e2 e3
   exact⟨by omega,fun _ ad vl=>by rw[e1]at vl; cases vl⟩
  ·injection hv with e1 e2 e3
   exact⟨by omega,fun _ ad vl=>by rw[e1]at vl; injection vl with vl; subst vl; exact Hy g 0 0⟩
 obtain⟨c2,mg,fb,ka⟩:=jt A c ya vo.1 vo.2
 refine Jl hw (Yo ka ?_)
 rw[hd]
 obtain⟨l1,l2,e1,_,e3⟩:=Jj zz
 have hO:Qg β ρ S.flat.mem=Qg β ρ l1++ml (.slice A xs.length c) e (rt u) xs::Qg β ρ l2:=by rw[e1]; simp[Qg,Qx,hρ]
 have hyx:ys.length≤xs.length:=by omega
 have hmul:ys.length*(rt u).size≤xs.length*(rt u).size:=JG _ hyx
 have hcsl:cs0.length=xs.length*(rt u).size:=xr.1
 have zy:Kc (rt u) (okR X β ρ S.flat.mem w) w ys (cs0.take (ys.length*(rt u).size)):=by
  refine Qh3 ys _ (by rw[QO]; omega) fun i y hy=>?_
  have hiy:=(QK.1 hy).1
  rw[hysT,JD]at hy
  split at hy
  ·refine⟨_,Fw jz hy,fun j v hj=>?_⟩
   rw[JD]at hj
   split at hj
   ·rename_i hjs
    rw[JZ]at hj
    rw[JD,if_pos ?_]
    ·exact hj
    ·have:(i+1)*(rt u).size≤ys.length*(rt u).size:=JG _ hiy
     rw[QP,WH]at this
     omega
   ·cases hj
  ·cases hy
 have kb:w.ownsRowS 0 e (rt u).size (.slice A ys.length c2) ys.length (cs0.take (ys.length*(rt u).size)):=by
  refine⟨by rw[QO]; omega,?_⟩
  rcases xr.2 with⟨hv,h0⟩ | ⟨g,cap,cur,fz,hv,ib,hh,yk,hle,xh,zr,vn⟩
  ·injection hv with q1 q2 q3
   have hy0:ys.length=0:=by omega
   have uj:c2=0:=by omega
   exact .inl ⟨by rw[q1,uj,hy0],hy0⟩
  ·injection hv with q1 q2 q3
   refine .inr ⟨g,c2,cur,fz,by rw[q1],ib,hh,yk,by omega,by omega,QN (JG _ (by omega)) zr,?_⟩
   rw[←vn,ZP,ZY hmul]
 have hS0:=h.toG.upd hO (t':=ml (.slice A ys.length c2) e (rt u) ys) (w':=w) rfl rfl rfl (QD _) (fun _ _ _=>rfl) (fun b o hb=>hb) (fun g hg=>.inl (by
  have yi:(Value.slice A ys.length c2).ownBlock=some g:=hg
  rw[Ft A ys.length xs.length c2 c]at yi; exact yi)) (fun kq kj=>⟨rfl,_,kb,X5 zy kj⟩)
 have hS:=hS0.put h1 (.v (.slice A ys.length c2))
 refine H β (upd ρ d (.slice A ys.length c2)) _ _ _ hk ⟨rfl,rfl,rfl,Wi f3 (J0 d β ρ _)⟩ ?_
 have e4:Jv S.mem id++S.fixM=l1++l2:=by rw[←K5 hm]; exact e3
 have hS':=hS.perm (O':=ml (.slice A ys.length c2) e (rt u) ys::Qg β ρ (Jv S.mem id++S.fixM)) (by rw[e4]; simp only[Qg,JK]; exact XK)
 exact Zy (S:={ S with mem:=Jv S.mem id }) (o:=.row e u ys) hX hr h.sz zl f1 f2 f3 hS' (by simp only[Qx,Jd]; exact Wa.refl _) ⟨_,_,_,rfl⟩
theorem Q8o(h:Rel X β ρ S.flat a w):∀{ps:List (Nat×Operand)} {vs:List (Nat×AV)} {c:AV} {j:Nat},Y8 S.flat [] ps=some vs→Jbd vs j=some c →
  ∃us:List Value,ps.map (fun p=>(p.1,a.eval p.2))=(List.range' j us.length).zip us∧us.length=vs.length∧(∀v∈us,Qu v=[v])∧cr β ρ (okR X β ρ S.flat.mem w) w false c us
 | [],vs,c,j,he,hx=>by
  simp[Y8]at he; subst he
  simp[Jbd]at hx; subst hx
  exact⟨[],rfl,rfl,by simp,rfl⟩
 | (i,x)::ps,vs,c,j,he,hx=>by
  simp only[Y8]at he
  split at he
  ·rename_i v l hv hl
   simp at he; subst he
   simp only[Jbd]at hx
   obtain⟨hb,hx⟩:=bvT hx
   simp only[QQ]at hb
   have:=QJ hb.1
   subst this
   split at hx
   ·rename_i r hr
    simp at hx; subst hx
    obtain⟨us,q1,q2,q3,q4⟩:=Q8o h (ps:=ps) hl hr
    obtain⟨cs,p1,p2⟩:=h.ev (Qc a) hv
    have tg:∃q,a.eval x=.pointer q∧cr β ρ (okR X β ρ S.flat.mem w) w false v [.pointer q]:=by
     cases v with
     | np =>
      have p2':cs=_:=p2
      subst p2'
      exact⟨_,p1,rfl⟩
     | p id path =>
      have p2':cs=_:=p2
      subst p2'
      exact⟨_,p1,rfl⟩
     | _=>cases hb.2
    obtain⟨q,e1,e2⟩:=tg
    refine⟨a.eval x::us,?_,by simp[q2],fun u hu=>?_,?_⟩
    ·simp only[JW,JI,KB,ZI,q1]
    ·rcases QX.1 hu with rfl | hu
     ·rw[e1]; rfl
     ·exact q3 u hu
    ·exact⟨[.pointer q],us,by rw[e1]; rfl,e2,q4⟩
   ·cases hx
  ·cases he
theorem Qqp:∀{us:List Value},(∀v∈us,Qu v=[v])→us.flatMap Qu=us
 | [],_=>rfl
 | v::us,h=>by
  rw[XE,h v (.head _),Qqp fun u hu=>h u (.tail _ hu)]; rfl
theorem Jgc(hT:Q4 P Y.T)(hX:X.n=n)(hr:X.res=[])(h:Rel X β ρ S.flat a w){o:Oper}(hw:Region.wanted o (yielded ops a.tmps)=true){d:Nat}(hd:o.dst=some d)(zl:okW n S d=true)(hb:okB S d=true)
  {t:TypeId} {m:Nat} {ps:List (Nat×Operand)} (kg:o.op=.buildSlice t (m+1) ⟨ps⟩) {te ee:TE} {e:TypeId} (ku:Qh Y.T t=some te) (kr:te.d=.slice e) (he:Qh Y.T e=some ee)
  {vs:List (Nat×AV)} {c:AV} (sc:Y8 S.flat [] ps=some vs) (ik:Jbd vs 0=some c) (ye:Uw d c=true) (hl:Nat.beq vs.length (m+1)=true) (ko:Nat.beq ee.size 1=true) (xi:Nat.beq (Qu ee.z).length 1=true) (td:Nat.ble (m+1) 16777216=true)
  (hk:k ((S.born d (.var e (.ag c))).put d [] (.w d 0 ((m+1:Nat):Int)))=some r) (H:KOk P ops Q rest X S β ρ k r):wpList P ops Q (o::rest) a w:=by
 obtain⟨us,q1,q2,q3,q4⟩:=Q8o h sc ik
 have xe:=QJ ko
 have hul:us.length=m+1:=q2.trans (QJ hl)
 have hzl':=QJ xi
 have yb:(U0 (Qu ee.z) ((m+1)*ee.size)).length=(m+1)*ee.size:=by simp[U0]
 have z7:=Q0n us 0 (U0 (Qu ee.z) ((m+1)*ee.size)) (s:=ee.size) (fun v hv=>by rw[q3 v hv,xe]; rfl) (by rw[yb,QE,hul]; exact QD _)
 rw[←q1]at z7
 have vd:N0 (Qch ee.size) (U0 (Qu ee.z) ((m+1)*ee.size)) (ps.map (fun p=>(p.1,a.eval p.2)))=some us:=by
  rw[z7]
  simp only[XB,ZA,QC,QE]
  rw[XN (by rw[yb,hul]; exact QD _),QR,Qqp q3]
 have ka:(execOp a.eval o).run P w=.ok (.value (.slice (some ⟨w.heap.size,0,none⟩) (m+1) (m+1))) (w.alloc (.cells us.toArray e)):=by
  have hm:(Array.mk ps).map (fun(x:Nat×Operand)=>(x.1,a.eval x.2))=⟨ps.map (fun p=>(p.1,a.eval p.2))⟩:=by simp
  have wq:(underlying t).run P w=.ok (.slice e) w:=by rw[Jx hT w ku,kr]
  have bh:¬ (m+1)*ee.size>16777216:=by have:=QF td; rw[xe]; omega
  have hf:Instr.fill (fun i=>some (i*ee.size,ee.size)) (U0 (Qu ee.z) ((m+1)*ee.size)).toArray (ps.map (fun p=>(p.1,a.eval p.2)))=some us.toArray:=Rl _ vd
  have th:(Array.range ((m+1)*ee.size)).map (fun x=>ee.z.cells[x % ee.z.cells.size]!)=(U0 (Qu ee.z) ((m+1)*ee.size)).toArray:=by
   rw[Vp]
   unfold U0
   apply Array.ext
   ·simp
   ·intro i h1 h2
    have xf:ee.z.cells.size=1:=by rw[←hzl',Vp]; simp
    have qo:i % ee.z.cells.size<ee.z.cells.size:=KT _ (by omega)
    simp[getElem!_pos,qo]
  unfold execOp
  rw[kg]
  simp only[Instr.buildSlice,Sem.run_bind,wq,J6 hT w he,Result.andThen_ok,hm]
  have vz:m+1≠0:=by omega
  have jy:ee.size≠0:=by omega
  have h02:¬ (m+1)*ee.size=0:=by rw[xe]; omega
  generalize hM:m+1=M at *
  simp[bh,vz,jy,Vc hT w he,th,hf,newRow]
  exact fun e=>absurd e h02
 exact Jf5 (x:=.w d 0 ((m+1:Nat):Int)) (cv:=fun g=>[.slice (some ⟨g,0,none⟩) (m+1) (m+1)]) hX hr h hw hd zl hb ka (c:=.ag c) q4 ye (fun β ρ ok w=>⟨_,_,rfl,fun _=>rfl⟩) hk H
theorem Q07(hT:Q4 P Y.T){β:Nat→Nat}{G:GL}{D:List DF}{O:List TL}(h:Sb β X G D [] O a w){t:TypeId}{len:Nat}{parts:List (Nat×Operand)}{d:Nat}{ps:String}{af:Array Edge}{ty:TypeId}{gd:Option (Nat×Bool)}
  (hg:B4 ops G ⟨some d,.buildSlice t len ⟨parts⟩,ty,ps,af,gd⟩=some true) (hlt:okD X d=true)
  {τ:Type} {r:RT τ} {xs:List τ} {vs:List Value} {pvs:List (Nat×Value)} (hpv:evParts G parts=some pvs)
  {e:TypeId} {te ee:TE} (ht:Qh Y.T t=some te) (kr:te.d=.slice e) (he:Qh Y.T e=some ee) (hs:ee.size=r.size) (xn:xs.length=len)
  (td:Nat.ble (len*ee.size) 16777216=true) (hps:Nat.ble 1 ee.size=true) (fe:1≤len) (hz:Nat.beq (Qu ee.z).length ee.size=true)
  (z7:N0 (Qch ee.size) (U0 (Qu ee.z) (len*ee.size)) pvs=some (vs.flatMap Qu))
  (hv:Qs0 r (Jf X.ok X.w.heap.size β [] O w) w xs vs)
  (hk:∀b a' w',Sb β X (Tl G d (.v (.slice (some ⟨b,0,none⟩) xs.length len))) D [] (ml (.slice (some ⟨b,0,none⟩) xs.length len) e r xs::O) a' w'→wpList P ops Q rest a' w') :
  wpList P ops Q (⟨some d,.buildSlice t len ⟨parts⟩,ty,ps,af,gd⟩::rest) a w:=by
 have hps1:=QF hps
 have hsm1:=QF td
 have ka:(execOp a.eval ⟨some d,.buildSlice t len ⟨parts⟩,ty,ps,af,gd⟩).run P w=.ok (.value (.slice (some ⟨w.heap.size,0,none⟩) xs.length len)) (w.alloc (.cells (vs.flatMap Qu).toArray e)):=by
  have yx:=Qgf h hpv
  have hm:(Array.mk parts).map (fun(x:Nat×Operand)=>(x.1,a.eval x.2))=⟨pvs⟩:=by rw[←yx]; simp
  have wq:(underlying t).run P w=.ok (.slice e) w:=by rw[Jx hT w ht,kr]
  have bh:¬ len*ee.size>16777216:=by omega
  have xi:=QJ hz
  have hf:Instr.fill (fun i=>some (i*ee.size,ee.size)) (U0 (Qu ee.z) (len*ee.size)).toArray pvs=some (vs.flatMap Qu).toArray:=Rl _ z7
  have th:(Array.range (len*ee.size)).map (fun x=>ee.z.cells[x % ee.z.cells.size]!)=(U0 (Qu ee.z) (len*ee.size)).toArray:=by
   rw[Vp]
   unfold U0
   apply Array.ext
   ·simp
   ·intro i h1 h2
    have xf:ee.z.cells.size=ee.size:=by rw[←xi,Vp]; simp
    have qo:i % ee.z.cells.size<ee.z.cells.size:=KT _ (by omega)
    simp[getElem!_pos,qo]
  unfold execOp
  simp only[Instr.buildSlice,Sem.run_bind,wq,J6 hT w he,Result.andThen_ok,hm]
  have vz:len≠0:=by omega
  have jy:ee.size≠0:=by omega
  have h0:¬ len*ee.size=0:=fun e=>by
   rcases Nat.mul_eq_zero.1 e with e | e<;>omega
  simp[bh,vz,jy,Vc hT w he,th,hf,newRow,xn]
  exact fun e=>absurd e h0
 refine Jl (Kj h hg) (Yo ka ?_)
 have hb:Below w.heap.size w (w.alloc (.cells (vs.flatMap Qu).toArray e)):=(Below.refl _ _).alloc (QD _) _
 have kq:Evo (Jf X.ok X.w.heap.size β [] O w) w (w.alloc (.cells (vs.flatMap Qu).toArray e)):=(Evo.of_below hb).mono fun b o hk=>hk.2.1
 obtain⟨fg,hl3⟩:=Qz2 hv
 have hlen:len≤len*ee.size:=KX len hps1
 refine hk _ _ _ ((h.allocTL hb (t:=ml (.slice (some ⟨w.heap.size,0,none⟩) xs.length len) e r xs) (fun g hg=>?_) ⟨rfl,vs.flatMap Qu,⟨?_,.inr ⟨w.heap.size,len,_,(0,0),rfl,JB _,heap_alloc_new w _,.inl rfl,?_,?_,?_,?_⟩⟩,?_⟩).put hlt (.v _))
 ·have hg:some w.heap.size=some g:=hg
  injection hg with hg; omega
 ·simp only[Zv]; exact fg
 ·simp only[Zv]; omega
 ·rw[Lx]; omega
 ·show len*r.size≤(vs.flatMap Qu).toArray.size
  rw[XW,fg,xn]
  exact QD _
 ·simp only[Zv]
  rw[←fg]
  exact VF
 ·refine X5 (Fv (Qpz hv) kq) fun b o hk=>?_
  obtain⟨h1,h2,h3,h4⟩:=hk
  refine⟨h1,JU h2 hb.size,h3,fun u hu hc=>?_⟩
  rcases QX.1 hu with rfl | hu
  ·have yp:some w.heap.size=some b:=hc
   injection yp with yp; omega
  ·exact h4 u hu hc
theorem Yw{d:TypeDesc}{e:TypeId}(h:Y0 d=some e):d=.slice e:=by
 cases d<;>simp[Y0]at h
 subst h; rfl
end
end Gx
