/- Steps that make slices. -/
import Derived.Test.YtfkpgpibpnghiaaGreatXJ
namespace Gx
open Go Go.RowKit Gd
set_option linter.unusedVariables false
set_option linter.unusedSimpArgs false
section
variable {P:Program} {Y:TX} {X:Cx} {S:XS} {β β':Nat→Nat} {ρ ρ':Nat→Value} {a a':Act} {w w':World} {n:Nat}
variable {ops:Array Oper} {Q:Exit→Act→World→Prop} {rest:List Oper} {R:Type} {k:XS→Option R} {r:R}
theorem J0(d:Nat)(β:Nat→Nat)(ρ:Nat→Value)(v:Value):Qhw d β β ρ (upd ρ d v):=fun i h=>⟨rfl,Bt _ _ h⟩
theorem Zn{M:List (Nat×Ob)}(hX:X.n=n)(hr:X.res=[])(kg:a.tmps.size=X.n){d:Nat}(zi:okW n S d=true)(hF:J7 d M=true)(hI:Qhp d S.fix=true)(hp:Yd S.prot d=false){v:Value}{o:Ob}{T':TL}
  (hS:Sb (fun _=>0) X (Sj (Qhx X.n a) d (.v v)) ((S.env++S.fix).map (enD β ρ a)) [] (T'::Qi β ρ M) a' w') (hT:Gk T' (Q0 β (upd ρ d v) d o)) (hv:∃A m c,v=.slice A m c) :
  Rel X β (upd ρ d v) ⟨⟨d,[],.s d⟩::(Yy (Vq d S.env) d++S.fix),(d,o)::M⟩ a' w':=by
 obtain⟨h1,h2⟩:=Vb zi hX hr
 have ha:=J0 d β ρ v
 refine Rel.fin (β':=β) (ρ':=upd ρ d v) (mem':=(d,o)::M) (fun _ _=>trivial) hS kg h1 (.cons hT (Su ha hF)) (fun e he ok w cs hc=>?_) (fun e he=>?_) (x:=.s d) (c:=[v]) rfl ?_
 ·exact Gl ha (Lo hI h2 e he).2.1 hc
 ·obtain⟨q1,_,q3,q4⟩:=Lo hI h2 e he
  exact⟨q1,q3,q4⟩
 ·refine⟨⟨_,rfl,.inl (by rw[Je])⟩,?_⟩
  rw[Je]; exact hv
theorem Bv(o:Oper):o=⟨o.dst,o.op,o.type,o.pos,o.after,o.guard⟩:=by cases o; rfl
theorem Rel.dropM{S:St}(h:Rel X β ρ S a w){id:Nat}{o:Ob}(hm:Qe S.mem id=some o):Rel X β ρ ⟨S.env,Jx S.mem id⟩ a w:=by
 obtain⟨l1,l2,e1,_,e3⟩:=Jv hm
 have wx:(Qi β ρ (l1++l2)).Sublist (Qi β ρ S.mem):=by
  rw[e1]
  grind
 unfold Rel at h ⊢
 show Sb _ _ _ _ _ (Qi β ρ (Jx S.mem id)) _ _
 rw[e3]
 exact Sb.remake h (fun t' k9=>.inl ⟨t',wx.subset k9,fun _ hg=>hg,fun _ _ hc=>hc,(h.own t' (wx.subset k9)).1⟩) (h.dOO.sublist wx)
theorem Jnx(hT:Q6 P Y.T)(hX:X.n=n)(hr:X.res=[])(h:Rel X β ρ S.flat a w){o:Oper}(hw:Region.wanted o (yielded ops a.tmps)=true){d:Nat}(hd:o.dst=some d)(zi:okW n S d=true)(hb:okB S d=true)
  {t:TypeId} {l c:Operand} (ko:o.op=.makeSlice t l c) {te ee:TE} {e:TypeId} (ku:Qh Y.T t=some te) (kr:te.d=.slice e) (he:Qh Y.T e=some ee) {lv cv:AV} (hl:S.ev [] l=some lv) (hc:S.ev [] c=some cv)
  {k1 k2:IntKind} {nl nc:Int} (hli:Xi lv=some (k1,nl)) (hci:Xi cv=some (k2,nc)) {u:Ty} {za:AV} {z:u.De} (mr:Ss u ee.z=some za) (hz:asD [] za u=some z) (kg:Nat.beq ee.size u.size=true)
  (xa:Nat.beq (Qu ee.z).length ee.size=true) (yk:Nat.ble 1 ee.bytes=true) {zs:List u.De} (qi:mkL ee.bytes nl nc z=some zs)
  (hk:k ((S.born d (.row e u zs)).put d [] (.s d))=some r) (H:KOk P ops Q rest X S β ρ k r):wpList P ops Q (o::rest) a w:=by
 obtain⟨f1,f2,f3⟩:=H3 hb
 obtain⟨h1,h2⟩:=Vb zi hX hr
 have hg:=Ln h hw
 rw[Bv o,hd,ko]at hg ⊢
 refine Q9l hT h.toG (r:=rt u) hg h1 ku kr he (by rw[Jf]; simp_all) xa yk (fun ok w=>K4 (β:=β) (ρ:=ρ) (M:=[]) (by simp[Qe]) hz (I7 mr))
  (by rw[gvE h (Qd a) hl,h.int (Qd a) hl hli]) (by rw[gvE h (Qd a) hc,h.int (Qd a) hc hci]) qi fun b a' w' hS=>?_
 refine H β (upd ρ d (.slice (some ⟨b,0,none⟩) zs.length nc.toNat)) _ _ _ hk (U0 f3 (J0 d β ρ _) _ _ _) ?_
 have:=Zn (o:=.row e u zs) hX hr h.sz zi f1 f2 f3 hS (by grind [Q0,Je,Gk.refl]) ⟨_,_,_,rfl⟩
 exact this
theorem Jny(hT:Q6 P Y.T)(hX:X.n=n)(hr:X.res=[])(h:Rel X β ρ S.flat a w){o:Oper}(hw:Region.wanted o (yielded ops a.tmps)=true){d:Nat}(hd:o.dst=some d)(zi:okW n S d=true)(hb:okB S d=true)
  {t:TypeId} (ko:o.op=.buildSlice t 0 ⟨[]⟩) {te ee:TE} {e:TypeId} (ku:Qh Y.T t=some te) (kr:te.d=.slice e) (he:Qh Y.T e=some ee) {u:Ty} (kg:Nat.beq ee.size u.size=true)
  (hk:k ((S.born d (.row e u [])).put d [] (.s d))=some r) (H:KOk P ops Q rest X S β ρ k r):wpList P ops Q (o::rest) a w:=by
 obtain⟨f1,f2,f3⟩:=H3 hb
 obtain⟨h1,h2⟩:=Vb zi hX hr
 have hg:=Ln h hw
 rw[Bv o,hd,ko]at hg ⊢
 refine Qop hT h.toG (r:=rt u) hg h1 ku kr he fun b a' w' _ hS=>?_
 refine H β (upd ρ d (.slice (some ⟨b,0,none⟩) (List.length ([]:List u.De)) 0)) _ _ _ hk (U0 f3 (J0 d β ρ _) _ _ _) ?_
 have e1:ee.size=(rt u).size:=by rw[Jf]; simp_all
 rw[e1]at hS
 have:=Zn (o:=.row e u []) hX hr h.sz zi f1 f2 f3 (hS.melt0) (by grind [Q0,Je,Gk.refl]) ⟨_,_,_,rfl⟩
 exact this
theorem Qv9(h:Rel X β ρ S.flat a w){u:Ty}:∀{ps:List (Nat×Operand)} {vs:List (Nat×AV)} {xs:List u.De} {j:Nat},Y0 S.flat [] ps=some vs→asLs S.flat.mem u vs j=some xs →
  ∃us:List Value,ps.map (fun p=>(p.1,a.eval p.2))=(List.range' j us.length).zip us∧Qr0 (rt u) (okR X β ρ S.flat.mem w) w xs us∧us.length=xs.length∧evParts (Qhx X.n a) ps=some (ps.map (fun p=>(p.1,a.eval p.2)))
 | [],vs,xs,j,he,hx=>by
  simp[Y0]at he; subst he
  simp[asLs]at hx; subst hx
  exact⟨[],rfl,trivial,rfl,rfl⟩
 | (i,x)::ps,vs,xs,j,he,hx=>by
  simp only[Y0]at he
  split at he
  ·rename_i v l hv hl
   simp at he; subst he
   simp only[asLs]at hx
   obtain⟨hb,hx⟩:=bvT hx
   simp only[QQ]at hb
   have:=Nat.eq_of_beq_eq_true hb.1
   subst this
   split at hx
   ·rename_i y ys hy zu
    simp at hx; subst hx
    obtain⟨us,q1,q2,q3,q4⟩:=Qv9 h (u:=u) (ps:=ps) hl zu
    have p7:=h.asD (Qd a) hv hy (bEq hb.2)
    refine⟨a.eval x::us,?_,⟨p7,q2⟩,by simp[q3],?_⟩
    ·grind [List.length_cons,List.range'_succ,List.zip_cons_cons]
    ·simp only[evParts,gvE h (Qd a) hv,q4,QP]
   ·cases hx
  ·cases he
theorem Jpi(hT:Q6 P Y.T)(hX:X.n=n)(hr:X.res=[])(h:Rel X β ρ S.flat a w){o:Oper}(hw:Region.wanted o (yielded ops a.tmps)=true){d:Nat}(hd:o.dst=some d)(zi:okW n S d=true)
  {t:TypeId} {m:Nat} {ps:List (Nat×Operand)} (ko:o.op=.buildSlice t (m+1) ⟨ps⟩) {te ee:TE} {e:TypeId} (ku:Qh Y.T t=some te) (kr:te.d=.slice e) (he:Qh Y.T e=some ee) {u:Ty} (kg:Nat.beq ee.size u.size=true)
  {vs:List (Nat×AV)} {xs:List u.De} (uf:Y0 S.flat [] ps=some vs) (xp:asLs S.flat.mem u vs 0=some xs) (hl:Nat.beq xs.length (m+1)=true) (vw:Nat.ble ((m+1)*ee.size) 16777216=true) (zn:Nat.ble 1 ee.size=true)
  (xa:Nat.beq (Qu ee.z).length ee.size=true) (hk:k (S.put d [] (.d (.sl u) xs))=some r) (H:KOk P ops Q rest X S β ρ k r):wpList P ops Q (o::rest) a w:=by
 obtain⟨h1,h2⟩:=Vb zi hX hr
 have hg:=Ln h hw
 obtain⟨us,q1,q2,q3,q4⟩:=Qv9 h uf xp
 have yx:=Nat.eq_of_beq_eq_true kg
 have xm:=Nat.eq_of_beq_eq_true hl
 have xg:∀v∈us,(Qu v).length=ee.size:=by
  have key:∀{xs:List u.De} {us:List Value},Qr0 (rt u) (okR X β ρ S.flat.mem w) w xs us→∀v∈us,(Qu v).length=ee.size:=by
   intro xs
   induction xs with
   | nil=>intro us hu v hv; cases us with
    | nil=>cases hv
    | cons _ _=>cases hu
   | cons x xs ih =>
    intro us hu v hv
    cases us with
    | nil=>cases hv
    | cons y us =>
     rcases QJ.1 hv with rfl | hv
     ·rw[(rt u).len (Bo hu.1),Jf,yx]
     ·exact ih hu.2 v hv
  exact key q2
 have zz:(Uw (Qu ee.z) ((m+1)*ee.size)).length=(m+1)*ee.size:=by simp[Uw]
 have zt:=Qy4 us 0 (Uw (Qu ee.z) ((m+1)*ee.size)) xg (by rw[zz,QV,q3,xm]; grind)
 rw[←q1]at zt
 have xr:Ni (Qbi ee.size) (Uw (Qu ee.z) ((m+1)*ee.size)) (ps.map (fun p=>(p.1,a.eval p.2)))=some (us.flatMap Qu):=by
  rw[zt]
  grind
 rw[Bv o,hd,ko]at hg ⊢
 refine Qmj hT h.toG (r:=rt u) hg h1 q4 ku kr he (by rw[Jf]; exact yx) xm vw (Nat.ble_eq_true_of_le (by have:=QK zn; have:=Nat.mul_le_mul (Nat.le_add_left 1 m) this; omega)) xa xr q2 fun A c a' w' hv hS=>?_
 refine H β ρ _ _ _ hk (Gn S d [] _) ?_
 have ye:=Rel.fin (β':=β) (ρ':=ρ) (env:=S.env++S.fix) (env':=Yy S.env d++S.fix) (mem':=S.mem++S.fixM) (fun _ _=>trivial) hS h.sz h1 (Xj.refl _) (fun e he ok w cs hc=>hc) (fun e he=>by
  grind [Lg,List.mem_append_left,Qbx,List.mem_append_right]) (x:=.d (.sl u) xs) (c:=[.slice A xs.length c]) rfl ⟨_,rfl,Zu.1 hv⟩
 exact ye
theorem slV(h:Rel X β ρ S.flat a w){x:Operand}{xv:AV}{u:Ty}{ys:List u.De}(hx:S.ev [] x=some xv)(hy:asD S.flat.mem xv (.sl u)=some ys) :
  ∃A m c,a.eval x=.slice A m c∧isV (rSl (rt u)) (okR X β ρ S.flat.mem w) w ys (.slice A m c):=by
 have xi:(Ty.sl u).agg=xv.isAgg:=by
  cases xv with
  | d t' y'=>obtain⟨rfl,_⟩:=Ty.cast_ok (by simpa only[asD]using hy); rfl
  | ag l=>simp[asD]at hy
  | _=>rfl
 have p7:=h.asD (Qd a) hx hy xi
 grind [Qi9,rt]
theorem slR(h:Rel X β ρ S.flat a w){x:Operand}{xv:AV}{u:Ty}{ys:List u.De}(hx:S.ev [] x=some xv)(hy:asR S.flat.mem xv u=some ys) :
  ∃A m c,a.eval x=.slice A m c∧Qyl (rt u) (okR X β ρ S.flat.mem w) w ys A m c:=by
 unfold asR at hy
 split at hy
 ·grind [slV,Q6j]
 ·split at hy
  ·rename_i id nd
   split at hy
   ·rename_i e t zs ho
    obtain⟨he,hz⟩:=Ty.cast_ok hy
    injection he with he
    subst he
    obtain⟨c1,h1,⟨v,rfl,zz⟩,A,m,c,hρ⟩:=h.ev (Qd a) hx
    have hp:=(h.ob ho).1
    have xe:(ml (ρ id) e (rt t) zs).p (okR X β ρ S.flat.mem w) w:=hp
    rw[hρ]at xe
    have vy:zs=ys:=hz.symm
    subst vy
    rcases zz with zz | ⟨wo,A0,zz⟩
    ·exact⟨A,m,c,by rw[h1,←hρ,←zz]; rfl,Jdr xe⟩
    ·refine⟨A0,0,0,by rw[h1,←zz]; rfl,?_⟩
     have hl:K2 (ρ id)=zs.length:=hp.1
     rw[wo]at hl
     have:zs=[]:=List.length_eq_zero_iff.1 hl.symm
     subst this
     exact⟨[],by simp,rfl,QY _,fun _=>rfl,by simp,fun h=>absurd h (by omega),by simp⟩
   ·cases hy
  ·cases hy
theorem Jeq(hT:Q6 P Y.T)(hX:X.n=n)(hr:X.res=[])(h:Rel X β ρ S.flat a w){o:Oper}(hw:Region.wanted o (yielded ops a.tmps)=true){d:Nat}(hd:o.dst=some d)(zi:okW n S d=true)(hb:okB S d=true)
  {t:TypeId} {s x:Operand} (ko:o.op=.call ⟨.builtin .append,⟨[s,x]⟩,⟨[t,t]⟩⟩) {te ee:TE} {e:TypeId} (ku:Qh Y.T t=some te) (kr:te.d=.slice e) (he:Qh Y.T e=some ee) {u:Ty} (kg:Nat.beq ee.size u.size=true)
  (zn:Nat.ble 1 ee.size=true) (yk:Nat.ble 1 ee.bytes=true) (xa:Nat.beq (Qu ee.z).length ee.size=true) {xv:AV} (hs:S.ev [] s=some .ns) (hx:S.ev [] x=some xv) {ys zs:List u.De} (hy:asR S.flat.mem xv u=some ys)
  (zo:app ee.bytes [] ys=some zs) (hk:k ((S.born d (.row e u zs)).put d [] (.s d))=some r) (H:KOk P ops Q rest X S β ρ k r):wpList P ops Q (o::rest) a w:=by
 obtain⟨f1,f2,f3⟩:=H3 hb
 obtain⟨h1,h2⟩:=Vb zi hX hr
 have hg:=Ln h hw
 obtain⟨A2,m2,c2,uq,vl⟩:=slR h hx hy
 obtain⟨c1,zh,yp⟩:=h.ev (Qd a) hs
 have ln:c1=_:=yp
 subst ln
 have zy:a.eval s=.slice none 0 0:=zh
 have ur:Sb (fun _=>0) X (Qhx X.n a) (S.flat.env.map (enD β ρ a)) [] (ml (.slice none 0 0) e (rt u) []::Qi β ρ S.flat.mem) a w:=Sb.addNilM h.toG e (rt u)
 have kn:∀b o,okR X β ρ S.flat.mem w b o→Jh X.ok X.w.heap.size (fun _=>0) [] (ml (.slice none 0 0) e (rt u) []::Qi β ρ S.flat.mem) w b o:=by
  rintro b o ⟨o1,o2,o3,o4⟩
  refine⟨o1,o2,o3,fun t ht hc=>?_⟩
  rcases QJ.1 ht with rfl | ht
  ·cases hc
  ·exact o4 t ht hc
 rw[Bv o,hd,ko]at hg ⊢
 refine Qhb hT ur [] (Qi β ρ S.flat.mem) (r:=rt u) hg h1 ku kr he (by rw[Jf]; exact Nat.eq_of_beq_eq_true kg) xa zn yk rfl (by rw[gvE h (Qd a) hs,zy]) (by rw[gvE h (Qd a) hx,uq]) (vl.weak kn) zo fun A' c' a' w' hS=>?_
 refine H β (upd ρ d (.slice A' zs.length c')) _ _ _ hk (U0 f3 (J0 d β ρ _) _ _ _) ?_
 exact Zn (o:=.row e u zs) hX hr h.sz zi f1 f2 f3 hS (by grind [Q0,Je,Gk.refl]) ⟨_,_,_,rfl⟩
theorem Kx{l m:List (Nat×Ob)}{id:Nat}{o:Ob}(h:Qe l id=some o):Jx (l++m) id=Jx l id++m:=by
 induction l with
 | nil=>simp[Qe]at h
 | cons q l ih =>
  simp only[Qe]at h
  simp only[Jx,QA]
  grind
theorem Sv{T:Tab}{G:GL}{D:List DF}{H:HL}{O:List TL}(hT:Q6 P T)(h:Sb β X G D H O a w){t:TypeId}{s x:Operand}{d:Nat}{ps:String}{af:Array Edge}{ty:TypeId}{gd:Option (Nat×Bool)}
  (hg:Bm ops G ⟨some d,.call ⟨.builtin .append,⟨[s,x]⟩,⟨[t,t]⟩⟩,ty,ps,af,gd⟩=some true) (hlt:okD X d=true)
  {τ:Type} {r:RT τ} {ys zs:List τ} {A A2:Option Addr} {m2 c2:Nat} {e:TypeId} {te ee:TE} (ht:Qh T t=some te) (kr:te.d=.slice e) (he:Qh T e=some ee) (hs:ee.size=r.size)
  (hz:Nat.beq (Qu ee.z).length ee.size=true) (kg:Nat.ble 1 ee.size=true) (yk:Nat.ble 1 ee.bytes=true)
  (wy:gv G s=some (.v (.slice A 0 0))) (xy:gv G x=some (.v (.slice A2 m2 c2)))
  (hDy:Qyl r (Jh X.ok X.w.heap.size β H O w) w ys A2 m2 c2) (zo:app ee.bytes ([]:List τ) ys=some zs)
  (sx:zs=[]→∀a',Sb β X (Sj G d (.v (.slice A 0 0))) D H O a' w→wpList P ops Q rest a' w)
  (ng:∀A' c' a' w',Sb β X (Sj G d (.v (.slice A' zs.length c'))) D H (ml (.slice A' zs.length c') e r zs::O) a' w'→wpList P ops Q rest a' w') :
  wpList P ops Q (⟨some d,.call ⟨.builtin .append,⟨[s,x]⟩,⟨[t,t]⟩⟩,ty,ps,af,gd⟩::rest) a w:=by
 obtain⟨zd,xb⟩:=Qja zo
 simp only[QU,QR,QV]at zd xb
 subst xb
 have h0:=Sb.addNilM h e r
 have hokn:∀b o,Jh X.ok X.w.heap.size β H O w b o→Jh X.ok X.w.heap.size β H (ml (.slice none 0 0) e r []::O) w b o:=by
  rintro b o ⟨o1,o2,o3,o4⟩
  refine⟨o1,o2,o3,fun t ht hc=>?_⟩
  rcases QJ.1 ht with rfl | ht
  ·cases hc
  ·exact o4 t ht hc
 obtain⟨csy,vz,va,iq,hA2,sc,mb,mc⟩:=hDy.weak hokn
 have xa:=Nat.eq_of_beq_eq_true hz
 have ua:0<ee.size:=QK kg
 have ub:0<ee.bytes:=QK yk
 have hu:P.underlying t=some (.slice e):=by rw[(Jq hT ht).2,kr]
 obtain⟨i,hi,vy,aa,uw⟩:=Wr hT he
 have hm2b:zs.length≤140737488355328:=Nat.le_trans (XK _ ub) zd
 have hm:(Array.mk [s,x]).map a.eval=⟨[.slice A 0 0,.slice A2 m2 c2]⟩:=by simp[h.ev wy,h.ev xy,D8]
 have vm:∀v' w1,(Builtin.append_ ⟨[t,t]⟩ ty ⟨[.slice A 0 0,.slice A2 m2 c2]⟩).run P w=.ok v' w1→(execOp a.eval ⟨some d,.call ⟨.builtin .append,⟨[s,x]⟩,⟨[t,t]⟩⟩,ty,ps,af,gd⟩).run P w=.ok (.value v') w1:=by
  simp_all [execOp,resolve,invoke,builtin]
 rcases Nat.eq_zero_or_pos m2 with nh | nh
 ·subst nh
  have hx:zs=[]:=QE va
  have ka:(Builtin.append_ ⟨[t,t]⟩ ty ⟨[.slice A 0 0,.slice A2 0 c2]⟩).run P w=.ok (.slice A 0 0) w:=by
   cases A<;>cases A2<;>simp[Builtin.append_,run_underlying hu,Go.sizeOf,typeInfo,hi,Builtin.lenOf,Builtin.firstCells,loadCells,loadCellsFrom,storeCells]
  refine Jr (Kc h hg) (Yr (vm _ _ ka) ?_)
  exact sx hx _ (h.put hlt (.v _))
 ·obtain⟨b,o,rfl,hc⟩:=mb nh
  have yz:∀j u,csy[j]?=some u→w.cell? ((⟨b,o,none⟩:Addr).add j)=some u:=fun j u hu=>by rw[Hi]; exact hc j u hu
  have vv:(Builtin.append_ ⟨[t,t]⟩ ty ⟨[.slice A 0 0,.slice (some ⟨b,o,none⟩) m2 c2]⟩).run P w=(Builtin.append_ ⟨[t,t]⟩ ty ⟨[.slice none 0 0,.slice (some ⟨b,o,none⟩) m2 c2]⟩).run P w:=by
   have hn:=run_append_nil (P:=P) w t ty e i ee.z hu hi vy (⟨b,o,none⟩) m2 c2 csy (by rw[aa,hs]; exact vz) yz nh (by omega) (by rw[uw,←va]; omega)
   cases A with
   | none=>rfl
   | some ad =>
    have:=run_append_grow (P:=P) w t ty e i ee.z hu hi vy ad 0 0 [] (by simp) (by simp) ⟨b,o,none⟩ m2 c2 csy (by rw[aa,hs]; exact vz) yz (by omega) (by omega) (growslice_fits (by omega) (by rw[uw,QV,←va]; exact zd))
    grind
  obtain⟨v',w1,ka,zl,kj,hblk⟩:=Qfo (P:=P) (w:=w) (ty:=ty) hT ht kr he xa ua ub (World.ownsRowS_nil w 0 e ee.size) (QM _) (k:=m2) (c:=c2) (A:=some ⟨b,o,none⟩) (news:=csy) (by rw[hs]; exact vz) hA2 (fun ad had=>by grind) sc (by rw[←va,QV]; exact zd)
  refine Jr (Kc h hg) (Yr (vm _ _ (vv.trans ka)) ?_)
  have ym:∃A' c',v'=.slice A' (0+m2) c':=by
   rcases zl.2 with⟨rfl,h0⟩ | ⟨g,cap,cur,fz,rfl,_⟩
   ·grind
   grind
  obtain⟨A',c',rfl⟩:=ym
  rw[QV]at zl
  rw[QV]at hblk
  have hS:Sb β X G D H (ml (.slice A' m2 c') e r zs::O) a w1:=by
   refine h0.upd (O1:=[]) rfl kj.os kj.tape kj.output kj.size (fun b hb hn=>kj.block b hb fun e=>hn e.symm) (fun b o hb=>hb) (fun g hg=>?_) fun kq kn=>?_
   ·rcases hblk with xc | ⟨xc,_⟩
    ·exact .inl (by have hg:(Value.slice A' m2 c').ownBlock=some g:=hg; rw[xc]at hg; exact hg)
    ·have hg:(Value.slice A' m2 c').ownBlock=some g:=hg
     rw[xc]at hg; grind
   ·refine⟨va.symm,csy,by rw[←hs]; exact zl,Xr (Fg ?_ kq) kn⟩
    grind [Qha]
  have:=ng A' c' (a.put (some d) (.slice A' m2 c')) w1
  rw[va]at this
  rw[QV]
  exact this (hS.put hlt (.v _))
theorem Qpp{M:List (Nat×Ob)}(hX:X.n=n)(hr:X.res=[])(kg:a.tmps.size=X.n){d:Nat}(zi:okW n S d=true)(hF:J7 d M=true)(hI:Qhp d S.fix=true)(hp:Yd S.prot d=false){A:Option Addr}{e:TypeId}{u:Ty}
  (hS:Sb (fun _=>0) X (Sj (Qhx X.n a) d (.v (.slice A 0 0))) ((S.env++S.fix).map (enD β ρ a)) [] (Qi β ρ M) a' w') :
  Rel X β (upd ρ d (.slice none 0 0)) ⟨⟨d,[],.s d⟩::(Yy (Vq d S.env) d++S.fix),(d,.row e u [])::M⟩ a' w':=by
 obtain⟨h1,h2⟩:=Vb zi hX hr
 have ha:=J0 d β ρ (.slice none 0 0)
 refine Rel.fin (β':=β) (ρ':=upd ρ d (.slice none 0 0)) (mem':=(d,.row e u [])::M) (fun _ _=>trivial) (Sb.addNilM hS e (rt u)) kg h1 (.cons (by grind [Q0,Je,Gk.refl]) (Su ha hF)) (fun e he ok w cs hc=>?_) (fun e he=>?_) (x:=.s d) (c:=[.slice A 0 0]) rfl ?_
 ·exact Gl ha (Lo hI h2 e he).2.1 hc
 ·obtain⟨q1,_,q3,q4⟩:=Lo hI h2 e he
  exact⟨q1,q3,q4⟩
 ·refine⟨⟨_,rfl,.inr ⟨by rw[Je],A,rfl⟩⟩,?_⟩
  rw[Je]; grind
theorem Jer(hT:Q6 P Y.T)(hX:X.n=n)(hr:X.res=[])(h:Rel X β ρ S.flat a w){o:Oper}(hw:Region.wanted o (yielded ops a.tmps)=true){d:Nat}(hd:o.dst=some d)(zi:okW n S d=true){id:Nat}
  (hb:okB ⟨S.env,S.fix,Jx S.mem id,S.fixM,S.prot⟩ d=true)
  {t:TypeId} {s x:Operand} (ko:o.op=.call ⟨.builtin .append,⟨[s,x]⟩,⟨[t,t]⟩⟩) {te ee:TE} {e:TypeId} (ku:Qh Y.T t=some te) (kr:te.d=.slice e) (he:Qh Y.T e=some ee) {u:Ty} (kg:Nat.beq ee.size u.size=true)
  (zn:Nat.ble 1 ee.size=true) (yk:Nat.ble 1 ee.bytes=true) (xa:Nat.beq (Qu ee.z).length ee.size=true) {xv:AV} (hs:S.ev [] s=some (.s id)) (hx:S.ev [] x=some xv) {xs ys zs:List u.De} (hm:Qe S.mem id=some (.row e u xs)) (hy:asR S.flat.mem xv u=some ys)
  (zo:app ee.bytes xs ys=some zs) (hk:k (({ S with mem:=Jx S.mem id }.born d (.row e u zs)).put d [] (.s d))=some r) (H:KOk P ops Q rest X S β ρ k r):wpList P ops Q (o::rest) a w:=by
 obtain⟨f1,f2,f3⟩:=H3 hb
 obtain⟨h1,h2⟩:=Vb zi hX hr
 have hg:=Ln h hw
 obtain⟨A2,m2,c2,uq,vl⟩:=slR h hx hy
 obtain⟨c1,zh,⟨v0,yp,zz⟩,A,m,c,hρ⟩:=h.ev (Qd a) hs
 subst yp
 have z6:Qe S.flat.mem id=some (.row e u xs):=Q4 hm
 have e4':Jx S.mem id++S.fixM=Jx S.flat.mem id:=(Kx hm).symm
 rcases zz with zz | ⟨wo,A0,zz⟩
 case inr =>
  have zy:a.eval s=.slice A0 0 0:=by rw[zh,←zz]; rfl
  have xp:xs=[]:=by
   have:=(h.ob z6).1.1
   rw[wo]at this
   exact List.length_eq_zero_iff.1 this.symm
  subst xp
  have hR:=h.dropM z6
  have wa:∀b o,okR X β ρ S.flat.mem w b o→Jh X.ok X.w.heap.size (fun _=>0) [] (Qi β ρ (Jx S.flat.mem id)) w b o:=by
   rintro b o ⟨o1,o2,o3,o4⟩
   refine⟨o1,o2,o3,fun t ht hc=>?_⟩
   obtain⟨l1,l2,e1,_,e3⟩:=Jv z6
   grind
  rw[Bv o,hd,ko]at hg ⊢
  refine Sv (a:=a) hT hR.toG (r:=rt u) hg h1 ku kr he (by rw[Jf]; exact Nat.eq_of_beq_eq_true kg) xa zn yk (by rw[gvE h (Qd a) hs,zy]) (by rw[gvE h (Qd a) hx,uq]) (vl.weak wa) zo (fun hz a' hS=>?_) fun A' c' a' w' hS=>?_
  ·subst hz
   rw[←e4']at hS
   exact H β (upd ρ d (.slice none 0 0)) _ _ _ hk ⟨rfl,rfl,rfl,Gm f3 (J0 d β ρ _)⟩ (Qpp (S:={ S with mem:=Jx S.mem id }) hX hr h.sz zi f1 f2 f3 hS)
  ·rw[←e4']at hS
   refine H β (upd ρ d (.slice A' zs.length c')) _ _ _ hk ⟨rfl,rfl,rfl,Gm f3 (J0 d β ρ _)⟩ ?_
   exact Zn (S:={ S with mem:=Jx S.mem id }) (o:=.row e u zs) hX hr h.sz zi f1 f2 f3 hS (by grind [Q0,Je,Gk.refl]) ⟨_,_,_,rfl⟩
 have zy:a.eval s=.slice A m c:=by rw[zh,←hρ,←zz]; rfl
 obtain⟨l1,l2,e1,_,e3⟩:=Jv z6
 have hO:Qi β ρ S.flat.mem=Qi β ρ l1++ml (.slice A m c) e (rt u) xs::Qi β ρ l2:=by rw[e1]; simp[Qi,Q0,hρ]
 rw[Bv o,hd,ko]at hg ⊢
 refine Qhb hT h.toG (Qi β ρ l1) (Qi β ρ l2) (r:=rt u) hg h1 ku kr he (by rw[Jf]; exact Nat.eq_of_beq_eq_true kg) xa zn yk hO (by rw[gvE h (Qd a) hs,zy]) (by rw[gvE h (Qd a) hx,uq]) vl zo fun A' c' a' w' hS=>?_
 refine H β (upd ρ d (.slice A' zs.length c')) _ _ _ hk ⟨rfl,rfl,rfl,Gm f3 (J0 d β ρ _)⟩ ?_
 have e4:Jx S.mem id++S.fixM=l1++l2:=by rw[←Kx hm]; exact e3
 have hS':=hS.perm (O':=ml (.slice A' zs.length c') e (rt u) zs::Qi β ρ (Jx S.mem id++S.fixM)) (by rw[e4]; simp[Qi,QB,List.perm_middle])
 exact Zn (S:={ S with mem:=Jx S.mem id }) (o:=.row e u zs) hX hr h.sz zi f1 f2 f3 hS' (by grind [Q0,Je,Gk.refl]) ⟨_,_,_,rfl⟩
theorem Jad(hT:Q6 P Y.T)(hX:X.n=n)(hr:X.res=[])(h:Rel X β ρ S.flat a w){o:Oper}(hw:Region.wanted o (yielded ops a.tmps)=true){d:Nat}(hd:o.dst=some d)(zi:okW n S d=true){id:Nat}
  (hb:okB ⟨S.env,S.fix,Jx S.mem id,S.fixM,S.prot⟩ d=true)
  {t:TypeId} {s x:Operand} (ko:o.op=.call ⟨.builtin .append,⟨[s,x]⟩,⟨[t,t]⟩⟩) {te ee:TE} {e:TypeId} (ku:Qh Y.T t=some te) (kr:te.d=.slice e) (he:Qh Y.T e=some ee) {u:Ty} (kg:Nat.beq ee.size u.size=true)
  (zn:Nat.ble 1 ee.size=true) (yk:Nat.ble 1 ee.bytes=true) (xa:Nat.beq (Qu ee.z).length ee.size=true) {xv:AV} (hs:S.ev [] s=some (.s id)) (hx:S.ev [] x=some xv) {xs ys zs:List u.De} (hm:Qe S.mem id=some (.tail e u xs)) (hy:asD S.flat.mem xv (.sl u)=some ys)
  (zo:app ee.bytes xs ys=some zs) (hk:k (({ S with mem:=Jx S.mem id }.born d (.tail e u zs)).put d [] (.s d))=some r) (H:KOk P ops Q rest X S β ρ k r):wpList P ops Q (o::rest) a w:=by
 obtain⟨f1,f2,f3⟩:=H3 hb
 obtain⟨h1,h2⟩:=Vb zi hX hr
 have hg:=Ln h hw
 obtain⟨A2,m2,c2,uq,vl⟩:=slV h hx hy
 obtain⟨c1,zh,⟨v0,yp,zz⟩,A,m,c,hρ⟩:=h.ev (Qd a) hs
 subst yp
 have z6:Qe S.flat.mem id=some (.tail e u xs):=Q4 hm
 have e4':Jx S.mem id++S.fixM=Jx S.flat.mem id:=(Kx hm).symm
 rcases zz with zz | ⟨wo,A0,zz⟩
 case inr =>
  have zy:a.eval s=.slice A0 0 0:=by rw[zh,←zz]; rfl
  have xp:xs=[]:=by
   have:=(h.ob z6).1.1
   rw[wo]at this
   grind [Qi9,List.length_eq_zero_iff]
  subst xp
  have hR:=h.dropM z6
  have wa:∀b o,okR X β ρ S.flat.mem w b o→Jh X.ok X.w.heap.size (fun _=>0) [] (Qi β ρ (Jx S.flat.mem id)) w b o:=by
   rintro b o ⟨o1,o2,o3,o4⟩
   refine⟨o1,o2,o3,fun t ht hc=>?_⟩
   obtain⟨l1,l2,e1,_,e3⟩:=Jv z6
   grind
  have ya:∀{ρ1:Nat→Value} {a1:Act} {w1:World},Rel X β ρ1 ⟨⟨d,[],.s d⟩::(Yy (Vq d S.env) d++S.fix),(d,.row e u zs)::(Jx S.mem id++S.fixM)⟩ a1 w1→Rel X β ρ1 ⟨⟨d,[],.s d⟩::(Yy (Vq d S.env) d++S.fix),(d,.tail e u zs)::(Jx S.mem id++S.fixM)⟩ a1 w1 :=
   fun hq=>Rel.freeze1 (l1:=[]) hq (by rw[←Nat.eq_of_beq_eq_true kg]; exact zn)
  rw[Bv o,hd,ko]at hg ⊢
  refine Sv (a:=a) hT hR.toG (r:=rt u) hg h1 ku kr he (by rw[Jf]; exact Nat.eq_of_beq_eq_true kg) xa zn yk (by rw[gvE h (Qd a) hs,zy]) (by rw[gvE h (Qd a) hx,uq]) (Q6j (vl.weak wa)) zo (fun hz a' hS=>?_) fun A' c' a' w' hS=>?_
  ·subst hz
   rw[←e4']at hS
   exact H β (upd ρ d (.slice none 0 0)) _ _ _ hk ⟨rfl,rfl,rfl,Gm f3 (J0 d β ρ _)⟩ (ya (Qpp (S:={ S with mem:=Jx S.mem id }) hX hr h.sz zi f1 f2 f3 hS))
  ·rw[←e4']at hS
   refine H β (upd ρ d (.slice A' zs.length c')) _ _ _ hk ⟨rfl,rfl,rfl,Gm f3 (J0 d β ρ _)⟩ (ya ?_)
   exact Zn (S:={ S with mem:=Jx S.mem id }) (o:=.row e u zs) hX hr h.sz zi f1 f2 f3 hS (by grind [Q0,Je,Gk.refl]) ⟨_,_,_,rfl⟩
 have zy:a.eval s=.slice A m c:=by rw[zh,←hρ,←zz]; rfl
 have yx:ee.size=(rt u).size:=by rw[Jf]; exact Nat.eq_of_beq_eq_true kg
 obtain⟨l1,l2,e1,_,e3⟩:=Jv z6
 have hO:Qi β ρ S.flat.mem=Qi β ρ l1++Qbl (.slice A m c) e (rt u) xs::Qi β ρ l2:=by rw[e1]; simp[Qi,Q0,hρ]
 have hG:=h.toG
 rw[hO]at hG
 have rh:isV (rSl (rt u)) (Jh X.ok X.w.heap.size (fun _=>0) [] (Qi β ρ S.flat.mem) w) w xs (.slice A m c):=by
  have:=(h.ob z6).1.1
  rw[hρ]at this
  exact this
 have vn:Xj (Qi β ρ l1++Qbl (.slice A m c) e (rt u) xs::Qi β ρ l2) (Qi β ρ l1++tl (.slice A m c) e ee.size::Qi β ρ l2) :=
  (Xj.refl _).append (.cons ⟨fun _=>Iff.rfl,fun _ _=>by rw[yx]; exact Iff.rfl,fun _ _ hp=>by rw[yx]; exact hp.2⟩ (Xj.refl _))
 have hG2:=Sb.simO hG vn
 have kn:∀b o,Jh X.ok X.w.heap.size (fun _=>0) [] (Qi β ρ S.flat.mem) w b o→Jh X.ok X.w.heap.size (fun _=>0) [] (Qi β ρ l1++tl (.slice A m c) e ee.size::Qi β ρ l2) w b o:=by rw[hO]; exact vn.ok
 have hG3:=hG2.addD (d:=DF.v (rSl (rt u)) xs (.slice A m c)) (rh.weak kn)
 rw[Bv o,hd,ko]at hg ⊢
 refine Qym hT hG3 0 0 (Qi β ρ l1) (Qi β ρ l2) (r:=rt u) hg h1 ku kr he yx xa zn yk rfl (by rw[gvE h (Qd a) hs,zy]) (by rw[gvE h (Qd a) hx,uq]) rfl (vl.weak kn) zo fun A' c' a' w' qy hS=>?_
 refine H β (upd ρ d (.slice A' zs.length c')) _ _ _ hk ⟨rfl,rfl,rfl,Gm f3 (J0 d β ρ _)⟩ ?_
 have e4:Jx S.mem id++S.fixM=l1++l2:=by rw[←Kx hm]; exact e3
 have hS1:Sb (fun _=>0) X (Sj (Qhx X.n a) d (.v (.slice A' zs.length c'))) (S.flat.env.map (enD β ρ a)) [] (Qi β ρ l1++tl (.slice A' zs.length c') e ee.size::Qi β ρ l2) a' w':={ hS with dat:=hS.dat.2 }
 have xu:=QF.1 hS1.dOO
 have hS2:Sb (fun _=>0) X (Sj (Qhx X.n a) d (.v (.slice A' zs.length c'))) (S.flat.env.map (enD β ρ a)) [] (Qi β ρ l1++Qbl (.slice A' zs.length c') e (rt u) zs::Qi β ρ l2) a' w':=by
  refine Sb.remake hS1 (fun t' k9=>?_) ?_
  ·rcases QX.1 k9 with k9 | k9
   ·exact .inl ⟨t',by simp[k9],fun _ hg=>hg,fun _ _ hc=>hc,(hS1.own t' (by simp[k9])).1⟩
   ·rcases QJ.1 k9 with rfl | k9
    ·refine .inl ⟨tl (.slice A' zs.length c') e ee.size,by simp,fun _ hg=>hg,fun _ _ hc=>by rw[yx]; exact hc,qy,?_⟩
     have:=(hS1.own (tl (.slice A' zs.length c') e ee.size) (by simp)).1
     rw[yx]at this
     exact this
    ·exact .inl ⟨t',by simp[k9],fun _ hg=>hg,fun _ _ hc=>hc,(hS1.own t' (by simp[k9])).1⟩
  ·have sg:=List.pairwise_cons.1 xu.2.1
   refine QF.2 ⟨xu.1,List.pairwise_cons.2 ⟨fun u hu=>sg.1 u hu,sg.2⟩,fun t ht t' k9=>?_⟩
   rcases QJ.1 k9 with rfl | k9
   ·exact xu.2.2 t ht (tl (.slice A' zs.length c') e ee.size) (.head _)
   grind
 have hS':=hS2.perm (O':=Qbl (.slice A' zs.length c') e (rt u) zs::Qi β ρ (Jx S.mem id++S.fixM)) (by rw[e4]; simp[Qi,QB,List.perm_middle])
 exact Zn (S:={ S with mem:=Jx S.mem id }) (o:=.tail e u zs) hX hr h.sz zi f1 f2 f3 hS' (by grind [Q0,Je,Gk.refl]) ⟨_,_,_,rfl⟩
theorem Jnz(hT:Q6 P Y.T)(hX:X.n=n)(hr:X.res=[])(h:Rel X β ρ S.flat a w){o:Oper}(hw:Region.wanted o (yielded ops a.tmps)=true){d:Nat}(hd:o.dst=some d)(zi:okW n S d=true)(hb:okB S d=true)
  {t:TypeId} {s x:Operand} (ko:o.op=.call ⟨.builtin .append,⟨[s,x]⟩,⟨[t,t]⟩⟩) {te ee:TE} {e:TypeId} (ku:Qh Y.T t=some te) (kr:te.d=.slice e) (he:Qh Y.T e=some ee) {u:Ty} (kg:Nat.beq ee.size u.size=true)
  (zn:Nat.ble 1 ee.size=true) (yk:Nat.ble 1 ee.bytes=true) (xa:Nat.beq (Qu ee.z).length ee.size=true) {xv:AV} (hs:S.ev [] s=some .z) (hx:S.ev [] x=some xv) {ys zs:List u.De} (hy:asR S.flat.mem xv u=some ys)
  (zo:app ee.bytes [] ys=some zs) (hk:k ((S.born d (.row e u zs)).put d [] (.s d))=some r) (H:KOk P ops Q rest X S β ρ k r):wpList P ops Q (o::rest) a w:=by
 obtain⟨f1,f2,f3⟩:=H3 hb
 obtain⟨h1,h2⟩:=Vb zi hX hr
 have hg:=Ln h hw
 obtain⟨A2,m2,c2,uq,vl⟩:=slR h hx hy
 obtain⟨c1,zh,A,yp⟩:=h.ev (Qd a) hs
 subst yp
 have zy:a.eval s=.slice A 0 0:=zh
 rw[Bv o,hd,ko]at hg ⊢
 refine Sv hT h.toG (r:=rt u) hg h1 ku kr he (by rw[Jf]; exact Nat.eq_of_beq_eq_true kg) xa zn yk (by rw[gvE h (Qd a) hs,zy]) (by rw[gvE h (Qd a) hx,uq]) vl zo (fun hz a' hS=>?_) fun A' c' a' w' hS=>?_
 ·subst hz
  exact H β (upd ρ d (.slice none 0 0)) _ _ _ hk (U0 f3 (J0 d β ρ _) _ _ _) (Qpp hX hr h.sz zi f1 f2 f3 hS)
 ·refine H β (upd ρ d (.slice A' zs.length c')) _ _ _ hk (U0 f3 (J0 d β ρ _) _ _ _) ?_
  exact Zn (o:=.row e u zs) hX hr h.sz zi f1 f2 f3 hS (by grind [Q0,Je,Gk.refl]) ⟨_,_,_,rfl⟩
end
end Gx

/- Strings as bytes, strings that are appended to bytes. -/
namespace Gx
open Go Go.RowKit Go.Lib Gd
set_option linter.unusedVariables false
set_option linter.unusedSimpArgs false
set_option linter.constructorNameAsVariable false
theorem Sw(l:Str):strCells ⟨⟨l⟩⟩=(Zw l).map (Value.int .u8):=by simp[strCells,Zw]
theorem Qd2{k:IntKind}{ok:Ok}{w:World}:∀xs:List Int,Ku (Si k) ok w xs (xs.map (Value.int k))
 | []=>rfl
 | x::xs=>⟨[.int k x],xs.map (Value.int k),rfl,rfl,Qd2 xs⟩
theorem Jjh{v:Value}(h:Jnt v=true):v=.int .u8 0:=by
 grind [Jnt]
theorem Jji{d:TypeDesc}(h:Jnu d=true):d=.int .u8:=by
 grind [Jnu]
theorem Jae{d:TypeDesc}(h:Q39 d=true):d=.string:=by
 grind [Q39]
theorem Qzk(w:World)(e:TypeId)(s:ByteArray):Below w.heap.size w (bytesWorld w e s) :=
 ⟨rfl,rfl,rfl,by rw[bytesWorld_size]; omega,fun b hb=>bytesWorld_at_old w e s b hb⟩
section
variable {P:Program} {T:Tab} {β:Nat→Nat} {X:Cx} {G:GL} {D:List DF} {H:HL} {O:List TL} {a:Act} {w w':World}
variable {ops:Array Oper} {Q:Exit→Act→World→Prop} {rest:List Oper}
theorem Qpq(hT:Q6 P T)(h:Sb β X G D H O a w)(O1 O2:List TL){t t':TypeId}{s x:Operand}{d:Nat}{ps:String}{af:Array Edge}{ty:TypeId}{gd:Option (Nat×Bool)}
  (hg:Bm ops G ⟨some d,.call ⟨.builtin .append,⟨[s,x]⟩,⟨[t,t']⟩⟩,ty,ps,af,gd⟩=some true) (hlt:okD X d=true)
  {xs zs:List Int} {l:Str} {A:Option Addr} {m c:Nat} {e:TypeId} {te te' ee:TE} (ht:Qh T t=some te) (kr:te.d=.slice e) (k9:Qh T t'=some te') (vo:te'.d=.string) (he:Qh T e=some ee)
  (hz:ee.z=.int .u8 0) (kg:ee.size=1) (yk:ee.bytes=1)
  (hO:O=O1++ml (.slice A m c) e (Si .u8) xs::O2) (wy:gv G s=some (.v (.slice A m c))) (xy:gv G x=some (.v (Yg l))) (zo:app 1 xs (Zw l)=some zs)
  (hk:∀A' c' a' w',Sb β X (Sj G d (.v (.slice A' zs.length c'))) D H (O1++ml (.slice A' zs.length c') e (Si .u8) zs::O2) a' w'→wpList P ops Q rest a' w') :
  wpList P ops Q (⟨some d,.call ⟨.builtin .append,⟨[s,x]⟩,⟨[t,t']⟩⟩,ty,ps,af,gd⟩::rest) a w:=by
 obtain⟨zd,rfl⟩:=Qja zo
 have ke:ml (.slice A m c) e (Si .u8) xs∈O:=by rw[hO]; simp
 obtain⟨⟨hl,xs0,kb,hr⟩,zg⟩:=h.own _ ke
 obtain⟨i,hi,vy,tj,yu⟩:=Wr hT he
 simp only[K2]at kb hl
 have rp:(Zw l).length=l.length:=by simp[Zw]
 have hu:=(Jq hT ht).2; rw[kr]at hu
 have ud:=(Jq hT k9).2; rw[vo]at ud
 have wj:(⟨⟨l⟩⟩:ByteArray).size=l.length:=rfl
 obtain⟨v',w1,ka,zl,kj,hblk⟩:=Qbk (P:=P) (w:=w) (ty:=ty) hu ud hi (by rw[vy,hz]) (by rw[tj,kg]) (by rw[yu,yk]) (base:=0) (v:=.slice A m c) (n:=m) (xs:=xs0) kb ⟨⟨l⟩⟩ (by rw[wj]; omega) (QM _)
 rw[wj]at zl
 have yd:(execOp a.eval ⟨some d,.call ⟨.builtin .append,⟨[s,x]⟩,⟨[t,t']⟩⟩,ty,ps,af,gd⟩).run P w=.ok (.value v') w1:=by
  unfold execOp
  have hm:(Array.mk [s,x]).map a.eval=⟨[.slice A m c,Yg l]⟩:=by simp[h.ev wy,h.ev xy,D8]
  simp_all [resolve,invoke,builtin,Yg]
 have ym:∃A' c',v'=.slice A' (m+l.length) c':=by
  rcases zl.2 with⟨rfl,h0⟩ | ⟨g,cap,cur,fz,rfl,_⟩
  ·grind
  grind
 obtain⟨A',c',rfl⟩:=ym
 have hlen:m+l.length=(xs++Zw l).length:=by rw[List.length_append,hl,rp]
 refine Jr (Kc h hg) (Yr yd ?_)
 have hS:Sb β X G D H (O1++ml (.slice A' (m+l.length) c') e (Si .u8) (xs++Zw l)::O2) a w1:=by
  refine h.upd hO kj.os kj.tape kj.output kj.size (fun b hb hn=>kj.block b hb fun e=>hn e.symm) (fun b o hb=>hb) (fun g hg=>?_) fun kq kn=>?_
  ·rcases hblk with xc | ⟨xc,_⟩
   ·exact .inl (by have hg:(Value.slice A' (m+l.length) c').ownBlock=some g:=hg; rw[xc]at hg; exact hg)
   ·have hg:(Value.slice A' (m+l.length) c').ownBlock=some g:=hg
    rw[xc]at hg; grind
  ·refine⟨hlen,xs0++strCells ⟨⟨l⟩⟩,zl,Nk (Xr (Fg hr kq) kn) ?_⟩
   rw[Sw]
   exact Qd2 _
 have:=hk A' c' (a.put (some d) (.slice A' (m+l.length) c')) w1
 rw[←hlen]at this
 exact this (hS.put hlt (.v _))
theorem Q4h(hT:Q6 P T)(h:Sb β X G D H O a w){t t':TypeId}{s x:Operand}{d:Nat}{ps:String}{af:Array Edge}{ty:TypeId}{gd:Option (Nat×Bool)}
  (hg:Bm ops G ⟨some d,.call ⟨.builtin .append,⟨[s,x]⟩,⟨[t,t']⟩⟩,ty,ps,af,gd⟩=some true) (hlt:okD X d=true)
  {zs:List Int} {l:Str} {A:Option Addr} {e:TypeId} {te te' ee:TE} (ht:Qh T t=some te) (kr:te.d=.slice e) (k9:Qh T t'=some te') (vo:te'.d=.string) (he:Qh T e=some ee)
  (hz:ee.z=.int .u8 0) (kg:ee.size=1) (yk:ee.bytes=1)
  (wy:gv G s=some (.v (.slice A 0 0))) (xy:gv G x=some (.v (Yg l))) (zo:app 1 [] (Zw l)=some zs)
  (sx:zs=[]→∀a',Sb β X (Sj G d (.v (.slice A 0 0))) D H O a' w→wpList P ops Q rest a' w)
  (ng:∀A' c' a' w',Sb β X (Sj G d (.v (.slice A' zs.length c'))) D H (ml (.slice A' zs.length c') e (Si .u8) zs::O) a' w'→wpList P ops Q rest a' w') :
  wpList P ops Q (⟨some d,.call ⟨.builtin .append,⟨[s,x]⟩,⟨[t,t']⟩⟩,ty,ps,af,gd⟩::rest) a w:=by
 obtain⟨zd,xb⟩:=Qja zo
 simp only[QU,QR,QV]at zd xb
 subst xb
 obtain⟨i,hi,vy,tj,yu⟩:=Wr hT he
 have rp:(Zw l).length=l.length:=by simp[Zw]
 have hu:=(Jq hT ht).2; rw[kr]at hu
 have ud:=(Jq hT k9).2; rw[vo]at ud
 have wj:(⟨⟨l⟩⟩:ByteArray).size=l.length:=rfl
 have hm:(Array.mk [s,x]).map a.eval=⟨[.slice A 0 0,Yg l]⟩:=by simp[h.ev wy,h.ev xy,D8]
 have vm:∀v' w1,(Builtin.append_ #[t,t'] ty #[.slice A 0 0,.string ⟨⟨l⟩⟩]).run P w=.ok v' w1→(execOp a.eval ⟨some d,.call ⟨.builtin .append,⟨[s,x]⟩,⟨[t,t']⟩⟩,ty,ps,af,gd⟩).run P w=.ok (.value v') w1:=by
  simp_all [execOp,resolve,invoke,builtin,Yg]
 by_cases wz:l.length=0
 ·have hl:l=[]:=QE wz
  subst hl
  have ka:(Builtin.append_ #[t,t'] ty #[.slice A 0 0,.string ⟨⟨[]⟩⟩]).run P w=.ok (.slice A 0 0) w:=by
   have zw:(⟨⟨[]⟩⟩:ByteArray).size=0:=rfl
   cases A<;>simp[Builtin.append_,run_underlying hu,run_underlying ud,Go.sizeOf,typeInfo,hi,Builtin.lenOf,Builtin.firstCells,storeCells,zw]
  refine Jr (Kc h hg) (Yr (vm _ _ ka) ?_)
  exact sx rfl _ (h.put hlt (.v _))
 ·have vv:(Builtin.append_ #[t,t'] ty #[.slice A 0 0,.string ⟨⟨l⟩⟩]).run P w=(Builtin.append_ #[t,t'] ty #[.slice none 0 0,.string ⟨⟨l⟩⟩]).run P w:=by
   have hn:=run_append_nil_string (P:=P) w t t' ty e i (.int .u8 0) hu ud hi (by rw[vy,hz]) ⟨⟨l⟩⟩ (by rw[wj]; omega) (by rw[wj]; omega) (by rw[yu,yk,wj]; omega)
   cases A with
   | none=>rfl
   | some ad =>
    have:=run_append_grow_string (P:=P) w t t' ty e i (.int .u8 0) hu ud hi (by rw[vy,hz]) ad 0 0 [] (by simp) (by simp) ⟨⟨l⟩⟩ (by rw[wj]; omega) (by rw[wj]; omega) (by rw[yu,yk,wj]; exact growslice_fits (by omega) (by omega))
    have e0:(strCells ⟨⟨l⟩⟩).toArray=(List.map (fun b=>Value.int .u8 (b.toNat:Int)) l).toArray:=by simp[strCells]
    rw[this,hn]; simp[e0]
  have h0:=Sb.addNilM h e (Si .u8)
  obtain⟨v',w1,ka,zl,kj,hblk⟩:=Qbk (P:=P) (w:=w) (ty:=ty) hu ud hi (by rw[vy,hz]) (by rw[tj,kg]) (by rw[yu,yk]) (base:=0) (v:=.slice none 0 0) (n:=0) (xs:=[]) (World.ownsRowS_nil w 0 e 1) ⟨⟨l⟩⟩ (by rw[wj]; omega) (QM _)
  rw[wj]at zl
  refine Jr (Kc h hg) (Yr (vm _ _ (vv.trans ka)) ?_)
  have ym:∃A' c',v'=.slice A' (0+l.length) c':=by
   rcases zl.2 with⟨rfl,h0⟩ | ⟨g,cap,cur,fz,rfl,_⟩
   ·grind
   grind
  obtain⟨A',c',rfl⟩:=ym
  rw[QV]at zl
  rw[QV]at hblk
  have hS:Sb β X G D H (ml (.slice A' l.length c') e (Si .u8) (Zw l)::O) a w1:=by
   refine h0.upd (O1:=[]) rfl kj.os kj.tape kj.output kj.size (fun b hb hn=>kj.block b hb fun e=>hn e.symm) (fun b o hb=>hb) (fun g hg=>?_) fun kq kn=>?_
   ·rcases hblk with xc | ⟨xc,_⟩
    ·exact .inl (by have hg:(Value.slice A' l.length c').ownBlock=some g:=hg; rw[xc]at hg; exact hg)
    ·have hg:(Value.slice A' l.length c').ownBlock=some g:=hg
     rw[xc]at hg; grind
   ·refine⟨by simp[K2,rp],strCells ⟨⟨l⟩⟩,(by have q:=zl; simp only[QU]at q; exact q),?_⟩
    rw[Sw]
    exact Qd2 _
  have:=ng A' c' (a.put (some d) (.slice A' l.length c')) w1
  rw[rp]at this
  rw[QV]
  exact this (hS.put hlt (.v _))
end
section
variable {P:Program} {Y:TX} {X:Cx} {S:XS} {β β':Nat→Nat} {ρ ρ':Nat→Value} {a a':Act} {w w':World} {n:Nat}
variable {ops:Array Oper} {Q:Exit→Act→World→Prop} {rest:List Oper} {R:Type} {k:XS→Option R} {r:R}
theorem Jaf(hT:Q6 P Y.T)(hX:X.n=n)(hr:X.res=[])(h:Rel X β ρ S.flat a w){o:Oper}(hw:Region.wanted o (yielded ops a.tmps)=true){d:Nat}(hd:o.dst=some d)(zi:okW n S d=true){id:Nat}
  (hb:okB ⟨S.env,S.fix,Jx S.mem id,S.fixM,S.prot⟩ d=true)
  {t t':TypeId} {s x:Operand} (ko:o.op=.call ⟨.builtin .append,⟨[s,x]⟩,⟨[t,t']⟩⟩) {te te' ee:TE} {e:TypeId} (ku:Qh Y.T t=some te) (kr:te.d=.slice e) (uu:Qh Y.T t'=some te') (vo:te'.d=.string) (he:Qh Y.T e=some ee)
  (hz:ee.z=.int .u8 0) (kg:ee.size=1) (yk:ee.bytes=1) {l:Str} (hs:S.ev [] s=some (.s id)) (hx:S.ev [] x=some (.d .str l)) {xs zs:List Int} (hm:Qe S.mem id=some (.row e (.int .u8) xs))
  (zo:app 1 xs (Zw l)=some zs) (hk:k (({ S with mem:=Jx S.mem id }.born d (.row e (.int .u8) zs)).put d [] (.s d))=some r) (H:KOk P ops Q rest X S β ρ k r):wpList P ops Q (o::rest) a w:=by
 obtain⟨f1,f2,f3⟩:=H3 hb
 obtain⟨h1,h2⟩:=Vb zi hX hr
 have hg:=Ln h hw
 have uq:a.eval x=Yg l:=h.toW.str (Qd a) hx rfl
 obtain⟨c1,zh,⟨v0,yp,zz⟩,A,m,c,hρ⟩:=h.ev (Qd a) hs
 subst yp
 have z6:Qe S.flat.mem id=some (.row e (.int .u8) xs):=Q4 hm
 have e4':Jx S.mem id++S.fixM=Jx S.flat.mem id:=(Kx hm).symm
 rcases zz with zz | ⟨wo,A0,zz⟩
 case inr =>
  have zy:a.eval s=.slice A0 0 0:=by rw[zh,←zz]; rfl
  have xp:xs=[]:=by
   have:=(h.ob z6).1.1
   rw[wo]at this
   exact List.length_eq_zero_iff.1 this.symm
  subst xp
  have hR:=h.dropM z6
  rw[Bv o,hd,ko]at hg ⊢
  refine Q4h (a:=a) hT hR.toG hg h1 ku kr uu vo he hz kg yk (by rw[gvE h (Qd a) hs,zy]) (by rw[gvE h (Qd a) hx,uq]) zo (fun hz a' hS=>?_) fun A' c' a' w' hS=>?_
  ·subst hz
   rw[←e4']at hS
   exact H β (upd ρ d (.slice none 0 0)) _ _ _ hk ⟨rfl,rfl,rfl,Gm f3 (J0 d β ρ _)⟩ (Qpp (u:=.int .u8) (S:={ S with mem:=Jx S.mem id }) hX hr h.sz zi f1 f2 f3 hS)
  ·rw[←e4']at hS
   refine H β (upd ρ d (.slice A' zs.length c')) _ _ _ hk ⟨rfl,rfl,rfl,Gm f3 (J0 d β ρ _)⟩ ?_
   exact Zn (S:={ S with mem:=Jx S.mem id }) (o:=.row e (.int .u8) zs) hX hr h.sz zi f1 f2 f3 hS (by simp only[Q0,Je]; exact Gk.refl _) ⟨_,_,_,rfl⟩
 have zy:a.eval s=.slice A m c:=by rw[zh,←hρ,←zz]; rfl
 obtain⟨l1,l2,e1,_,e3⟩:=Jv z6
 have hO:Qi β ρ S.flat.mem=Qi β ρ l1++ml (.slice A m c) e (Si .u8) xs::Qi β ρ l2:=by rw[e1]; simp[Qi,Q0,hρ,rt]
 rw[Bv o,hd,ko]at hg ⊢
 refine Qpq hT h.toG (Qi β ρ l1) (Qi β ρ l2) hg h1 ku kr uu vo he hz kg yk hO (by rw[gvE h (Qd a) hs,zy]) (by rw[gvE h (Qd a) hx,uq]) zo fun A' c' a' w' hS=>?_
 refine H β (upd ρ d (.slice A' zs.length c')) _ _ _ hk ⟨rfl,rfl,rfl,Gm f3 (J0 d β ρ _)⟩ ?_
 have e4:Jx S.mem id++S.fixM=l1++l2:=by rw[←Kx hm]; exact e3
 have hS':=hS.perm (O':=ml (.slice A' zs.length c') e (Si .u8) zs::Qi β ρ (Jx S.mem id++S.fixM)) (by rw[e4]; simp[Qi,QB,List.perm_middle])
 exact Zn (S:={ S with mem:=Jx S.mem id }) (o:=.row e (.int .u8) zs) hX hr h.sz zi f1 f2 f3 hS' (by simp only[Q0,Je]; exact Gk.refl _) ⟨_,_,_,rfl⟩
theorem Jag(hT:Q6 P Y.T)(hX:X.n=n)(hr:X.res=[])(h:Rel X β ρ S.flat a w){o:Oper}(hw:Region.wanted o (yielded ops a.tmps)=true){d:Nat}(hd:o.dst=some d)(zi:okW n S d=true)(hb:okB S d=true)
  {t t':TypeId} {s x:Operand} (ko:o.op=.call ⟨.builtin .append,⟨[s,x]⟩,⟨[t,t']⟩⟩) {te te' ee:TE} {e:TypeId} (ku:Qh Y.T t=some te) (kr:te.d=.slice e) (uu:Qh Y.T t'=some te') (vo:te'.d=.string) (he:Qh Y.T e=some ee)
  (hz:ee.z=.int .u8 0) (kg:ee.size=1) (yk:ee.bytes=1) {l:Str} (hs:S.ev [] s=some .ns) (hx:S.ev [] x=some (.d .str l)) {zs:List Int}
  (zo:app 1 [] (Zw l)=some zs) (hk:k ((S.born d (.row e (.int .u8) zs)).put d [] (.s d))=some r) (H:KOk P ops Q rest X S β ρ k r):wpList P ops Q (o::rest) a w:=by
 obtain⟨f1,f2,f3⟩:=H3 hb
 obtain⟨h1,h2⟩:=Vb zi hX hr
 have hg:=Ln h hw
 have uq:a.eval x=Yg l:=h.toW.str (Qd a) hx rfl
 obtain⟨c1,zh,yp⟩:=h.ev (Qd a) hs
 have ln:c1=_:=yp
 subst ln
 have zy:a.eval s=.slice none 0 0:=zh
 have ur:Sb (fun _=>0) X (Qhx X.n a) (S.flat.env.map (enD β ρ a)) [] (ml (.slice none 0 0) e (Si .u8) []::Qi β ρ S.flat.mem) a w:=Sb.addNilM h.toG e (Si .u8)
 rw[Bv o,hd,ko]at hg ⊢
 refine Qpq hT ur [] (Qi β ρ S.flat.mem) hg h1 ku kr uu vo he hz kg yk rfl (by rw[gvE h (Qd a) hs,zy]) (by rw[gvE h (Qd a) hx,uq]) zo fun A' c' a' w' hS=>?_
 refine H β (upd ρ d (.slice A' zs.length c')) _ _ _ hk (U0 f3 (J0 d β ρ _) _ _ _) ?_
 exact Zn (o:=.row e (.int .u8) zs) hX hr h.sz zi f1 f2 f3 hS (by simp only[Q0,Je]; exact Gk.refl _) ⟨_,_,_,rfl⟩
theorem Q4i(hT:Q6 P Y.T)(hX:X.n=n)(hr:X.res=[])(h:Rel X β ρ S.flat a w){o:Oper}(hw:Region.wanted o (yielded ops a.tmps)=true){d:Nat}(hd:o.dst=some d)(zi:okW n S d=true)(hb:okB S d=true)
  {s t:TypeId} {x:Operand} (ko:o.op=.convert s t x) {se te ee:TE} {e:TypeId} (zh:Qh Y.T s=some se) (ku:Qh Y.T t=some te) (kr:te.d=.slice e) (he:Qh Y.T e=some ee) (hed:ee.d=.int .u8)
  {l:Str} (hx:S.ev [] x=some (.d .str l)) {zs:List Int} (zo:app 1 [] (Zw l)=some zs) (hk:k ((S.born d (.row e (.int .u8) zs)).put d [] (.s d))=some r) (H:KOk P ops Q rest X S β ρ k r):wpList P ops Q (o::rest) a w:=by
 obtain⟨f1,f2,f3⟩:=H3 hb
 obtain⟨h1,h2⟩:=Vb zi hX hr
 have uq:a.eval x=Yg l:=h.toW.str (Qd a) hx rfl
 obtain⟨zd,xb⟩:=Qja zo
 simp only[QU]at xb
 subst xb
 have rp:(Zw l).length=l.length:=by simp[Zw]
 have wj:(⟨⟨l⟩⟩:ByteArray).size=l.length:=rfl
 have sr:=(Jq hT zh).2
 have p9:=(Jq hT ku).2; rw[kr]at p9
 have my:=(Jq hT he).2; rw[hed]at my
 have we:=run_convert_string_bytes (P:=P) w s t e ⟨⟨l⟩⟩ sr p9 my
 have ka:(execOp a.eval o).run P w=.ok (.value (.slice (some ⟨w.heap.size,0,none⟩) l.length (grownCap w l.length 0 e))) (bytesWorld w e ⟨⟨l⟩⟩):=by
  simp_all [execOp,Yg,Sem.run_bind]
 refine Jr hw (Yr ka ?_)
 have ti:=grownCap_ge w l.length 0 e
 have yw:grownCap w l.length 0 e≤maxLen:=grownCap_le_maxLen w l.length 0 e (by rw[Lc]; grind)
 have ra:(bytesCells w e ⟨⟨l⟩⟩).size=grownCap w l.length 0 e:=by
  simp only[bytesCells,ZX,Array.size_map,Array.size_replicate,wj]
  have:(⟨l⟩:Array UInt8).size=l.length:=rfl
  omega
 have kb:(bytesWorld w e ⟨⟨l⟩⟩).ownsRowS 0 e 1 (.slice (some ⟨w.heap.size,0,none⟩) l.length (grownCap w l.length 0 e)) l.length (strCells ⟨⟨l⟩⟩):=by
  refine⟨by rw[strCells_length,wj,ZJ],.inr ⟨w.heap.size,_,_,_,rfl,QM _,bytesWorld_at_new w e ⟨⟨l⟩⟩,.inr rfl,ti,yw,by rw[ra,ZJ]; grind,?_⟩⟩
  simp only[bytesCells,Array.toList_append,ZJ]
  rw[JO (by simp),List.take_of_length_le (by simp)]
  simp[strCells]
 have zp:=Qzk w e ⟨⟨l⟩⟩
 have hS:=Sb.allocTL h.toG zp (t:=ml (.slice (some ⟨w.heap.size,0,none⟩) l.length (grownCap w l.length 0 e)) e (Si .u8) (Zw l)) (fun g hg=>by
  have hg:some w.heap.size=some g:=hg
  grind) ⟨by simp[K2,rp],_,kb,by rw[Sw]; exact Qd2 _⟩
 rw[hd]
 refine H β (upd ρ d (.slice (some ⟨w.heap.size,0,none⟩) l.length (grownCap w l.length 0 e))) _ _ _ hk (U0 f3 (J0 d β ρ _) _ _ _) ?_
 exact Zn (o:=.row e (.int .u8) (Zw l)) hX hr h.sz zi f1 f2 f3 (hS.put h1 (.v _)) (by simp only[Q0,Je]; exact Gk.refl _) ⟨_,_,_,rfl⟩
end
end Gx

/- The builtin copy. -/
namespace Gx
open Go Go.RowKit Gd
set_option linter.unusedVariables false
set_option linter.unusedSimpArgs false
theorem Qtj{τ:Type}{r:RT τ}{ok:Ok}{w:World}:∀{xs:List τ} {cs:List Value} (k:Nat),Ku r ok w xs cs→Ku r ok w (xs.drop k) (cs.drop (k*r.size))
 | xs,cs,0,h=>by simpa using h
 | [],cs,k+1,h=>by
  have h':cs=[]:=h
  grind
 | x::xs,cs,k+1,⟨c1,c2,e,h1,h2⟩=>by
  have hl:=r.len h1
  subst e
  have e2:(c1++c2).drop ((k+1)*r.size)=c2.drop (k*r.size):=by
   rw[List.drop_append,JC (by rw[hl,Nat.add_mul]; omega),QU,hl]
   grind
  rw[e2]
  simpa using Qtj k h2
theorem Qtk{τ:Type}{r:RT τ}{ok:Ok}{w:World}:∀{xs:List τ} {cs:List Value} (k:Nat),Ku r ok w xs cs→Ku r ok w (xs.take k) (cs.take (k*r.size))
 | xs,cs,0,h=>by simp[Ku]
 | [],cs,k+1,h=>by
  have h':cs=[]:=h
  grind
 | x::xs,cs,k+1,⟨c1,c2,e,h1,h2⟩=>by
  have hl:=r.len h1
  subst e
  refine⟨c1,c2.take (k*r.size),?_,h1,Qtk k h2⟩
  rw[XG,List.take_of_length_le (by rw[hl,Nat.add_mul]; omega),hl]
  grind
theorem Jk3{P:Program}{w:World}(a:Addr)(cs:List Value)(k:Nat)(hk:cs.length=k)(h:∀j v,cs[j]?=some v→w.cell? (a.add j)=some v):(loadCells a k).run P w=.ok cs.toArray w:=by
 grind [run_loadCells_list]
section
variable {P:Program} {w:World} {dT sT ty elem:TypeId} {i:TypeInfo}
theorem Jah(hu:P.underlying dT=some (.slice elem))(hi:P.info? elem=some i){d a:Option Addr}{dLen dCap sLen sCap:Nat}(hn:Nat.min sLen dLen=0) :
  (Builtin.copy_ #[dT,sT] ty #[.slice d dLen dCap,.slice a sLen sCap]).run P w=.ok (goInt 0) w:=by
 have hl:∀(x:Addr),(loadCells x 0).run P w=.ok #[] w:=fun x=>Jk3 x [] 0 rfl (by simp)
 cases d<;>cases a<;>simp[Builtin.copy_,run_underlying hu,Builtin.lenOf,Builtin.firstCells,Go.sizeOf,typeInfo,hi,hn,storeCells,hl]
theorem Jai(hu:P.underlying dT=some (.slice elem))(hi:P.info? elem=some i){g dLen dCap sLen sCap:Nat}{a:Addr}{cur:Array Value}{t:TypeId}{fz:Nat×Nat}{cs:List Value}(hg:w.heap[g]?=some (.cells cur t fz))(ya:Qvj fz cur.size)
  (hn:cs.length=Nat.min sLen dLen*i.size) (hsrc:∀j v,cs[j]?=some v→w.cell? (a.add j)=some v) (tw:cs.length≤cur.size) (h1:∀v∈cs,v.oneCell'=true) :
  (Builtin.copy_ #[dT,sT] ty #[.slice (some ⟨g,0,none⟩) dLen dCap,.slice (some a) sLen sCap]).run P w=.ok (goInt (Nat.min sLen dLen:Nat)) (w.setRow g (cs++cur.toList.drop cs.length).toArray):=by
 have hl:=Jk3 (P:=P) (w:=w) a cs _ hn hsrc
 have zj:=Uu P g 0 t fz cs 0 cur w hg ya (by grind) h1
 simp only[JP,QV,XM,QU]at zj
 simp_all [Builtin.copy_,run_underlying,Builtin.lenOf,Builtin.firstCells,Go.sizeOf,typeInfo]
end
section
variable {P:Program} {Y:TX} {X:Cx} {S:XS} {β β':Nat→Nat} {ρ ρ':Nat→Value} {a a':Act} {w w':World} {n:Nat}
variable {ops:Array Oper} {Q:Exit→Act→World→Prop} {rest:List Oper} {R:Type} {k:XS→Option R} {r:R}
theorem Jn0(hT:Q6 P Y.T)(hX:X.n=n)(hr:X.res=[])(h:Rel X β ρ S.flat a w){o:Oper}(hw:Region.wanted o (yielded ops a.tmps)=true){d:Nat}(hd:o.dst=some d)(zi:okW n S d=true){t t':TypeId}{dst src:Operand}
  (ko:o.op=.call ⟨.builtin .copy,⟨[dst,src]⟩,⟨[t,t']⟩⟩) {te ee:TE} {e:TypeId} (ku:Qh Y.T t=some te) (kr:te.d=.slice e) (he:Qh Y.T e=some ee) {id:Nat} {xv:AV} {et:TypeId} {u:Ty} {xs ys:List u.De} (hs:S.ev [] dst=some (.s id)) (hx:S.ev [] src=some xv)
  (hm:Qe S.mem id=some (.row et u xs)) (hy:asD S.flat.mem xv (.sl u)=some ys) (kg:Nat.beq ee.size u.size=true) (zn:Nat.ble 1 u.size=true)
  (hk:k ((S.set id (.row et u (Cs xs ys))).put d [] (.d (.int .i64) (Qe2 xs ys)))=some r) (H:KOk P ops Q rest X S β ρ k r):wpList P ops Q (o::rest) a w:=by
 obtain⟨h1,h2⟩:=Vb zi hX hr
 have z6:Qe S.flat.mem id=some (.row et u xs):=Q4 hm
 obtain⟨l1,l2,e1,e2,e3⟩:=Jv z6
 obtain⟨c1,zh,⟨v0,yp,zz⟩,A,m,c,hρ⟩:=h.ev (Qd a) hs
 subst yp
 have xi:(Ty.sl u).agg=xv.isAgg:=by
  cases xv with
  | d t' y'=>obtain⟨rfl,_⟩:=Ty.cast_ok (by simpa only[asD]using hy); rfl
  | ag l=>simp[asD]at hy
  | _=>rfl
 have p7:=h.toW.asD (Qd a) hx hy xi
 obtain⟨A2,c2,xn,vl⟩:=Qi9 (r:=rt u) p7
 obtain⟨cs,xg,va,hyc,hA2,py,jx,hc4⟩:=Nj (Zu.1 vl)
 obtain⟨i,hi,_,his,_⟩:=Wr hT he
 have hu:=(Jq hT ku).2; rw[kr]at hu
 have hsu:=Nat.eq_of_beq_eq_true kg
 obtain⟨⟨wz,cs0,xd,js⟩,_⟩:=h.ob z6
 have hO:Qi β ρ S.flat.mem=Qi β ρ l1++ml (ρ id) et (rt u) xs::Qi β ρ l2:=by rw[e1]; simp[Qi,Q0]
 have ni:∀w1,Sb (fun _=>0) X [] (S.flat.env.map (enD β ρ a)) [] (Qi β ρ l1++ml (ρ id) et (rt u) (Cs xs ys)::Qi β ρ l2) a w1→wpList P ops Q rest (a.put (some d) (goInt (Qe2 xs ys))) w1:=by
  intro w1 hS
  have hE:(S.set id (.row et u (Cs xs ys))).flat=⟨S.flat.env,Qhf S.flat.mem id (.row et u (Cs xs ys))⟩:=by
   grind [XS.flat,XS.set,E1]
  refine H β ρ ((S.set id (.row et u (Cs xs ys))).put d [] (.d (.int .i64) (Qe2 xs ys))) _ _ hk ⟨rfl,rfl,rfl,agP.refl _ _ _⟩ ?_
  have ke:Qi β ρ (l1++(id,Ob.row et u (Cs xs ys))::l2)=Qi β ρ l1++ml (ρ id) et (rt u) (Cs xs ys)::Qi β ρ l2:=by simp[Qi,Q0]
  have hRel:Rel X β ρ (S.set id (.row et u (Cs xs ys))).flat a w1:=by
   rw[hE,e2]
   exact Rel.ofSb hS ke.symm fun e he=>by
    have:=Yc.1 hS.dat _ (QZ.2 ⟨e,he,rfl⟩)
    rw[←ke]at this
    exact this
  have:=hRel.put0 h1 (x:=.d (.int .i64) (Qe2 xs ys)) (c:=[.int .i64 (Qe2 xs ys)]) rfl
  rw[←Xk (S:=S.set id (.row et u (Cs xs ys))) h2]at this
  exact this
 have tn:∀v,a.eval dst=v→(execOp a.eval o).run P w=((Builtin.copy_ #[t,t'] o.type #[v,.slice A2 ys.length c2]).run P w).andThen fun v w'=>.ok (.value v) w':=by
  simp_all [execOp,resolve,invoke,builtin]
 have hzero:∀v A' m' c',a.eval dst=v→v=.slice A' m' c'→Nat.min ys.length m'=0→Nat.min ys.length xs.length=0→wpList P ops Q (o::rest) a w:=by
  intro v A' m' c' hv u6 jr hn1
  refine Jr hw (Yr (w':=w) (v:=goInt 0) (by rw[tn v hv,u6,Jah hu hi jr]; rfl) ?_)
  rw[hd]
  have hcl0:Cs xs ys=xs:=by grind [Cs]
  have hcn0:Qe2 xs ys=0:=by grind [Qe2]
  have:=ni w
  rw[hcl0,hcn0,←hO]at this
  exact this h
 rcases zz with zz | ⟨wo,A0,zz⟩
 case inr =>
  have zy:a.eval dst=.slice A0 0 0:=by rw[zh,←zz]; rfl
  have xp:xs.length=0:=by rw[wo]at wz; exact wz.symm
  grind
 have zy:a.eval dst=.slice A m c:=by rw[zh,←hρ,←zz]; rfl
 have u9:m=xs.length:=by rw[hρ]at wz; exact wz
 by_cases jr:Nat.min ys.length xs.length=0
 ·grind
 have fp:0<ys.length:=by have:=Nat.min_le_left ys.length xs.length; grind
 have hxpos:0<xs.length:=by grind
 obtain⟨b2,o2,rfl,yc⟩:=jx fp
 rcases xd.2 with⟨hv,hn⟩ | ⟨g,cap,cur,fz,hv,_,hh,ya,hle,yw,zx,wb⟩
 ·rw[hρ]at hv; grind
 rw[hρ]at hv
 injection hv with hA uo wc
 subst hA
 have xt:K2 (ρ id)=xs.length:=wz
 rw[xt]at hle wb
 have husz:(rt u).size=u.size:=Jf u
 have hisz:i.size=(rt u).size:=by rw[his,hsu,husz]
 have hnle:Nat.min ys.length xs.length≤xs.length:=Nat.min_le_right _ _
 have fq:Nat.min ys.length xs.length≤ys.length:=Nat.min_le_left _ _
 generalize ae:Nat.min ys.length xs.length=k0 at *
 have hkm:k0*(rt u).size≤xs.length*(rt u).size:=QD _ hnle
 have hkm2:k0*(rt u).size≤ys.length*(rt u).size:=QD _ fq
 have hmc:xs.length*(rt u).size≤cap*(rt u).size:=QD _ hle
 have nj:(cs.take (k0*(rt u).size)).length=k0*(rt u).size:=by rw[List.length_take,xg]; omega
 have ft:cap*(rt u).size≤cur.toList.length:=by simpa using zx
 have zj:=Jai (P:=P) (w:=w) (dT:=t) (sT:=t') (ty:=o.type) hu hi (dLen:=m) (dCap:=c) (sLen:=ys.length) (sCap:=c2) (a:=⟨b2,o2,none⟩) (cs:=cs.take (k0*(rt u).size)) hh ya (by rw[nj,u9,ae,hisz]) (fun j v hj=>by
   rw[Hi]
   grind) (by rw[nj]; omega) (fun v hv=>py v (XB hv))
 refine Jr hw (Yr (w':=w.setRow g (cs.take (k0*(rt u).size)++cur.toList.drop (cs.take (k0*(rt u).size)).length).toArray) (v:=goInt (Qe2 xs ys)) (by rw[tn _ zy,zj]; simp only[Qe2,u9,ae]; rfl) ?_)
 rw[hd]
 have wu:=setRow_heap w g cur (cs.take (k0*(rt u).size)++cur.toList.drop (cs.take (k0*(rt u).size)).length).toArray et _ hh
 have rq:(cs.take (k0*(rt u).size)++cur.toList.drop (cs.take (k0*(rt u).size)).length).length=cur.toList.length:=by
  rw[List.length_append,List.length_drop,nj]; omega
 have fu:(Cs xs ys).length=xs.length:=by
  grind [Cs,List.length_append,List.length_take,List.length_drop]
 have zu:Ku (rt u) (Jh X.ok X.w.heap.size (fun _=>0) [] (Qi β ρ S.flat.mem) w) w (ys.take k0) (cs.take (k0*(rt u).size)):=by
  have ze:Ku (rt u) (Jh X.ok X.w.heap.size (fun _=>0) [] (Qi β ρ S.flat.mem) w) w ys cs:=Qha ys cs xg hc4
  grind [Qtk]
 have hS:=Sb.upd h (O1:=Qi β ρ l1) (O2:=Qi β ρ l2) (t:=ml (ρ id) et (rt u) xs) (t':=ml (ρ id) et (rt u) (Cs xs ys)) (w':=w.setRow g (cs.take (k0*(rt u).size)++cur.toList.drop (cs.take (k0*(rt u).size)).length).toArray) hO rfl rfl rfl (by simp)
  (fun b hb hn=>setRow_other _ _ _ _ fun e=>hn (by subst e; show(ρ id).ownBlock=_; rw[hρ]; rfl)) (fun b o hb=>hb) (fun g hg=>.inl hg) fun kq kn=>by
   refine⟨by rw[xt,fu],_,⟨?_,.inr ⟨g,cap,_,fz,by rw[hρ,wc]; rfl,QM _,wu,by rw[JF,rq]; simpa using ya,by rw[xt]; exact hle,yw,by rw[JF,rq]; exact ft,rfl⟩⟩,?_⟩
   ·rw[xt]
    grind
   ·rw[xt]
    show Ku (rt u) _ _ (Cs xs ys) (List.take (xs.length*(rt u).size) (cs.take (k0*(rt u).size)++cur.toList.drop (cs.take (k0*(rt u).size)).length))
    have e5:List.take (xs.length*(rt u).size) (cs.take (k0*(rt u).size)++cur.toList.drop (cs.take (k0*(rt u).size)).length)=cs.take (k0*(rt u).size)++(cs0.drop (k0*(rt u).size)):=by
     rw[XG,nj,List.take_of_length_le (by rw[nj]; exact hkm),←wb,List.drop_take]
    rw[e5]
    have h6:=Nk (Xr (Fg zu kq) kn) (Xr (Fg (Qtj k0 js) kq) kn)
    grind [Cs]
 exact ni _ hS
end
end Gx

/- A key is taken out of a map; the beginning of a row of one's own. -/
namespace Gx
open Go Go.RowKit Gd
set_option linter.unusedVariables false
set_option linter.unusedSimpArgs false
section
variable {P:Program} {T:Tab}
theorem Qwa(hT:Q6 P T){kt:TypeId}{te:TE}(ht:Qh T kt=some te){k:Ty}(h:Y5 T k te.d=true)(key:k.De){ν:Type}{s:RT ν}{ok:Ok}{w:World}:∀{xs:List (k.De×ν)} {es:List MapEntry},Dr (rt k) s ok w xs es →
  (Qw key xs=none∧Iy key xs=xs) ∨
  (∃(j:Nat) (e:MapEntry),(∀i,(Instr.findAsking kt (Yw k key) es i).run P w=.ok (some (i+j,e.val)) w)∧es[j]?=some e∧Dr (rt k) s ok w (Iy key xs) (es.eraseIdx j))
 | [],es,hp=>.inl ⟨rfl,rfl⟩
 | x::xs,es,hp=>by
  obtain⟨e,es',rfl,h1,h2,h3⟩:=hp
  have hk:=Cq (Vp h) h1
  have heq:=Qfq hT ht h key x.1 w
  simp only[Iy,Qw,Instr.findAsking,Sem.run_bind,hk,heq,Result.andThen_ok]
  cases he:eqK k key x.1 with
  | true=>exact .inr ⟨0,e,by simp,rfl,h3⟩
  | false =>
   rcases Qwa hT ht h key h3 with⟨q1,q2⟩ | ⟨j,e',q2,q3,q5⟩
   ·grind
   ·exact .inr ⟨j+1,e',fun i=>by rw[show i+(j+1)=i+1+j by omega]; grind,q3,⟨e,_,rfl,h1,h2,q5⟩⟩
theorem Qzl{k:Ty}{ν:Type}(key:k.De):∀{xs:List (k.De×ν)},(Iy key xs).Sublist xs
 | []=>List.Sublist.refl _
 | x::xs=>by
  simp only[Iy]
  cases eqK k key x.1 with
  | true=>grind
  | false=>exact(Qzl key).cons_cons _
theorem Q4j(hT:Q6 P T){t kt et:TypeId}{te tk:TE}(ht:Qh T t=some te)(kr:te.d=.map kt et)(hk:Qh T kt=some tk)
  {k:Ty} {ν:Type} {s:RT ν} (hd:Y5 T k tk.d=true) {ok:Ok} {w:World} {g:Nat} {es:Array MapEntry} {clock:Nat} (hg:w.heap[g]?=some (.map es clock)) {xs:List (k.De×ν)} (hp:Dr (rt k) s ok w xs es.toList) (zj:Qbr es clock) (key:k.De) (kt' ty:TypeId) :
  ∃es',(Builtin.delete_ #[t,kt'] ty #[.map (some g),Yw k key]).run P w=.ok (.tuple #[]) { w with heap:=w.heap.setIfInBounds g (.map es' clock) }∧Dr (rt k) s ok w (Iy key xs) es'.toList∧Qbr es' clock:=by
 have hu:=(Jq hT ht).2
 rw[kr]at hu
 rcases Qhh hT hk hd key w hp with⟨q1,q2⟩ | ⟨j,e,y,q1,q2,q3,q4,q5⟩
 ·refine⟨es,?_,?_,zj⟩
  ·simp[Builtin.delete_,run_underlying hu,MapKept.run_getObj_map hg,H1 hT hk hd,q2,MapKept.run_setObj_map _ hg,Result.andThen]
  grind [Qwa,Qfr]
 ·rcases Qwa hT hk hd key hp with⟨r1,_⟩ | ⟨j',e',r1,r2,r3⟩
  ·rw[q1]at r1; cases r1
  ·have r4:=r1 0
   have:=Qfr hT hk hd key w hp r4
   rw[q2]at this
   injection this with this
   simp only[Option.some.injEq,Prod.mk.injEq]at this
   have hj:j=j':=by omega
   subst hj
   have hlt:j<es.size:=by have:=(List.getElem?_eq_some_iff.1 q3).1; grind
   have hl:(es.eraseIdxIfInBounds j).toList=es.toList.eraseIdx j:=by
    unfold Array.eraseIdxIfInBounds
    rw[dif_pos hlt,Array.toList_eraseIdx]
   refine⟨es.eraseIdxIfInBounds j,?_,by rw[hl]; exact r3,?_,fun e he=>?_⟩
   ·simp[Builtin.delete_,run_underlying hu,MapKept.run_getObj_map hg,H1 hT hk hd,q2,MapKept.run_setObj_map _ hg,Result.andThen]
   ·rw[hl]
    exact zj.1.sublist ((ZE _ _).map _)
   ·rw[hl]at he
    exact zj.2 e ((ZE _ _).subset he)
end
section
variable {P:Program} {Y:TX} {X:Cx} {S:XS} {β β':Nat→Nat} {ρ ρ':Nat→Value} {a a':Act} {w w':World} {n:Nat}
variable {ops:Array Oper} {Q:Exit→Act→World→Prop} {rest:List Oper} {R:Type} {k:XS→Option R} {r:R}
theorem Jes(hT:Q6 P Y.T)(h:Rel X β ρ S.flat a w){o:Oper}(hw:Region.wanted o (yielded ops a.tmps)=true){t t':TypeId}{m ky:Operand}(ko:o.op=.call ⟨.builtin .delete,⟨[m,ky]⟩,⟨[t,t']⟩⟩)(hd:o.dst=none){te tk:TE}{kt et:TypeId}(ku:Qh Y.T t=some te)(kr:te.d=.map kt et)(xz:Qh Y.T kt=some tk)
  {id:Nat} {kv:AV} {kk v:Ty} {xs:List (kk.De×v.De)} {key:kk.De} (hm:S.ev [] m=some (.m id)) (ux:S.ev [] ky=some kv) (ug:Qe S.mem id=some (.map kk v xs)) (yi:asD [] kv kk=some key)
  (ve:Y5 Y.T kk tk.d=true) (qk:(kk.agg==kv.isAgg)=true)
  (hk:k (S.set id (.map kk v (Iy key xs)))=some r) (H:KOk P ops Q rest X S β ρ k r):wpList P ops Q (o::rest) a w:=by
 obtain⟨c1,h1,h2⟩:=h.ev (Qd a) hm
 have zb:c1=[.map (some (β id))]:=h2
 subst zb
 have k8:a.eval m=.map (some (β id)):=h1
 obtain⟨c3,h3,h4⟩:=h.ev (Qd a) ux
 have mu:isV (rt kk) (okR X β ρ S.flat.mem w) w key (a.eval ky):=by
  refine⟨c3,K4 (M:=[]) (β:=β) (ρ:=ρ) (by simp[Qe]) yi h4,?_⟩
  rw[h3]; simp only[AV.val,RT.val,Ld,bEq qk]; cases kv.isAgg<;>rfl
 have pd:=Cq (Vp ve) mu
 have z6:Qe S.flat.mem id=some (.map kk v xs):=Q4 ug
 obtain⟨⟨es,clock,hg,hp,yf,lj,lk⟩,zg⟩:=h.ob z6
 obtain⟨es',ka,xe,uk⟩:=Q4j hT ku kr xz ve hg hp ⟨lj,lk⟩ key t' o.type
 have yd:(execOp a.eval o).run P w=.ok (.value (.tuple #[])) { w with heap:=w.heap.setIfInBounds (β id) (.map es' clock) }:=by
  unfold execOp
  have hmm:(Array.mk [m,ky]).map a.eval=⟨[.map (some (β id)),Yw kk key]⟩:=by simp[k8,pd]
  simp only[ko,resolve,hmm,invoke,builtin]
  simp[ka]
 refine Jr hw (Yr yd ?_)
 rw[hd]
 have hO':=Jv z6
 obtain⟨l1,l2,e1,e2,e3⟩:=hO'
 have hO:Qi β ρ S.flat.mem=Qi β ρ l1++Q0 β ρ id (.map kk v xs)::Qi β ρ l2:=by rw[e1]; simp[Qi]
 have hS:=h.upd hO (t':=Q0 β ρ id (.map kk v (Iy key xs))) (w':={ w with heap:=w.heap.setIfInBounds (β id) (.map es' clock) }) rfl rfl rfl (by simp) (fun b hb hn=>(MapKept.heap_set hg).2 b fun e=>hn e) (fun b o hb=>hb) (fun g hg=>.inl hg) (fun kq kn=>by
  refine⟨es',clock,(MapKept.heap_set hg).1,?_,yf.sublist ((Qzl key).map _),uk.1,uk.2⟩
  exact Gi (Pz xe kq) kn)
 have hE:(S.set id (.map kk v (Iy key xs))).flat=⟨S.flat.env,Qhf S.flat.mem id (.map kk v (Iy key xs))⟩:=by
  grind [XS.flat,XS.set,E1]
 refine H β ρ _ _ _ hk ⟨rfl,rfl,rfl,agP.refl _ _ _⟩ ?_
 rw[hE,e2]
 have ke:Qi β ρ (l1++(id,Ob.map kk v (Iy key xs))::l2)=Qi β ρ l1++Q0 β ρ id (.map kk v (Iy key xs))::Qi β ρ l2:=by simp[Qi]
 exact Rel.ofSb hS ke.symm fun e he=>by
  have:=Yc.1 hS.dat _ (QZ.2 ⟨e,he,rfl⟩)
  rw[←ke]at this
  exact this
theorem Jet(hT:Q6 P Y.T)(hX:X.n=n)(hr:X.res=[])(h:Rel X β ρ S.flat a w){o:Oper}(hw:Region.wanted o (yielded ops a.tmps)=true){d:Nat}(hd:o.dst=some d)(zi:okW n S d=true){id:Nat}
  (hb:okB ⟨S.env,S.fix,Jx S.mem id,S.fixM,S.prot⟩ d=true) {t:TypeId} {x:Operand} {hi mx:Option Operand} (ko:o.op=.slice t x none hi mx) {te ee:TE} {e:TypeId} (ku:Qh Y.T t=some te) (kr:te.d=.slice e) (he:Qh Y.T e=some ee) {u:Ty} (kg:Nat.beq ee.size u.size=true)
  {xs ys:List u.De} (hx:S.ev [] x=some (.s id)) (hm:Qe S.mem id=some (.row e u xs)) {q:Int} (hq:bnd S.flat [] xs.length hi=some q) (zu:slc xs 0 q=some ys)
  (u9:mx=none∨∃hv mv k1 k2 m,hi=some hv∧mx=some mv∧a.eval hv=.int k1 q∧a.eval mv=.int k2 m∧q≤m∧m≤(xs.length:Int))
  (hk:k (({ S with mem:=Jx S.mem id }.born d (.row e u ys)).put d [] (.s d))=some r) (H:KOk P ops Q rest X S β ρ k r):wpList P ops Q (o::rest) a w:=by
 obtain⟨f1,f2,f3⟩:=H3 hb
 obtain⟨h1,h2⟩:=Vb zi hX hr
 have hg:=Ln h hw
 obtain⟨c1,zh,⟨v0,yp,zz⟩,A,m,c,hρ⟩:=h.ev (Qd a) hx
 subst yp
 have z6:Qe S.flat.mem id=some (.row e u xs):=Q4 hm
 have e4':Jx S.mem id++S.fixM=Jx S.flat.mem id:=(Kx hm).symm
 obtain⟨h0,ah,ai,lf,va⟩:=slc_ok zu
 have fw:ys=xs.take q.toNat:=by rw[lf]; simp
 have xk:(underlying t).run P w=.ok (.slice e) w:=by rw[Ju hT w ku,kr]
 obtain⟨⟨wz,cs0,xd,js⟩,zg⟩:=h.ob z6
 have ua:=Nat.eq_of_beq_eq_true kg
 have ni:∀(A':Option Addr) (c':Nat),a.eval x=.slice A' xs.length c'→xs.length≤c'→(c'≠0→∀ad,A'=some ad→ad.add 0=ad)→∃c2,ys.length≤c2∧c2≤c'∧(execOp a.eval o).run P w=.ok (.value (.slice A' ys.length c2)) w:=by
  intro A' c' hv yc ig
  obtain⟨c2,pz,jx,hbn⟩:∃c2,ys.length≤c2∧c2≤c'∧(Instr.sliceBounds true xs.length c' none (hi.map a.eval) (mx.map a.eval)).run P w=.ok (0,q.toNat,c2) w:=by
   rcases u9 with rfl | ⟨qy,mv,k1,k2,m,rfl,rfl,e1,e2,e3,e5⟩
   ·exact⟨c',by omega,QY _,Np (P:=P) (w:=w) (isS:=true) (lo:=none) (len:=xs.length) (cap:=c') (.inl ⟨rfl,rfl⟩) (h.toW.bnd (Qd a) hq) (XV 0) ah (by omega) yc⟩
   ·exact⟨m.toNat,by omega,by omega,Qlk (P:=P) (w:=w) (lo:=none) (len:=xs.length) (cap:=c') (.inl ⟨rfl,rfl⟩) e1 e2 (XV 0) ah e3 (by omega)⟩
  refine⟨c2,pz,jx,?_⟩
  have hA':(if c2=0 then A' else A'.map (·.add (0*u.size)))=A':=by
   split
   ·rfl
   ·rename_i ma
    cases A' with
    | none=>rfl
    | some ad=>rw[XI]; grind
  have hlen:q.toNat - 0=ys.length:=by omega
  unfold execOp
  rw[ko]
  simp only[hv]
  simp[Instr.sliceAt,xk,Instr.slice,hbn,J5 hT w he,ua,hlen]
  simpa using hA'
 rcases zz with zz | ⟨wo,A0,zz⟩
 case inr =>
  have zy:a.eval x=.slice A0 0 0:=by rw[zh,←zz]; rfl
  have xp:xs=[]:=by
   rw[wo]at wz
   exact List.length_eq_zero_iff.1 wz.symm
  subst xp
  have hy0:ys=[]:=by rw[fw]; simp
  subst hy0
  obtain⟨c2,_,jx,ka⟩:=ni A0 0 zy (QY _) (fun h=>absurd rfl h)
  have ma:c2=0:=by omega
  subst ma
  refine Jr hw (Yr ka ?_)
  rw[hd]
  have hS:=(h.dropM z6).toG.put h1 (.v (.slice A0 0 0))
  rw[←e4']at hS
  exact H β (upd ρ d (.slice none 0 0)) _ _ _ hk ⟨rfl,rfl,rfl,Gm f3 (J0 d β ρ _)⟩ (Qpp (S:={ S with mem:=Jx S.mem id }) hX hr h.sz zi f1 f2 f3 hS)
 have zy:a.eval x=.slice A m c:=by rw[zh,←hρ,←zz]; rfl
 have u9:m=xs.length:=by rw[hρ]at wz; exact wz
 subst u9
 have xt:K2 (ρ id)=xs.length:=by rw[hρ]; rfl
 rw[xt,hρ]at xd
 have wc:xs.length≤c∧(c≠0→∀ad,A=some ad→ad.add 0=ad):=by
  rcases xd.2 with⟨hv,h0⟩ | ⟨g,cap,cur,fz,hv,_,_,_,hle,_⟩
  ·grind
  grind [Hi]
 obtain⟨c2,pz,jx,ka⟩:=ni A c zy wc.1 wc.2
 refine Jr hw (Yr ka ?_)
 rw[hd]
 obtain⟨l1,l2,e1,_,e3⟩:=Jv z6
 have hO:Qi β ρ S.flat.mem=Qi β ρ l1++ml (.slice A xs.length c) e (rt u) xs::Qi β ρ l2:=by rw[e1]; simp[Qi,Q0,hρ]
 have hyx:ys.length≤xs.length:=by omega
 have hmul:ys.length*(rt u).size≤xs.length*(rt u).size:=QD _ hyx
 have ft:cs0.length=xs.length*(rt u).size:=xd.1
 have zr:Ku (rt u) (okR X β ρ S.flat.mem w) w ys (cs0.take (ys.length*(rt u).size)):=by
  refine Qha ys _ (by rw[List.length_take]; omega) fun i y hy=>?_
  have hiy:=(List.getElem?_eq_some_iff.1 hy).1
  rw[fw,JJ]at hy
  split at hy
  ·refine⟨_,Fh js hy,fun j v hj=>?_⟩
   rw[JJ]at hj
   split at hj
   ·rename_i hjs
    rw[JX]at hj
    rw[JJ,if_pos ?_]
    ·exact hj
    ·have:(i+1)*(rt u).size≤ys.length*(rt u).size:=QD _ hiy
     rw[Nat.add_mul,ZN]at this
     omega
   ·cases hj
  ·cases hy
 have kb:w.ownsRowS 0 e (rt u).size (.slice A ys.length c2) ys.length (cs0.take (ys.length*(rt u).size)):=by
  refine⟨by rw[List.length_take]; omega,?_⟩
  rcases xd.2 with⟨hv,h0⟩ | ⟨g,cap,cur,fz,hv,me,hh,ya,hle,yw,zx,wb⟩
  ·grind
  ·injection hv with q1 q2 q3
   refine .inr ⟨g,c2,cur,fz,by rw[q1],me,hh,ya,by omega,by omega,Nat.le_trans (QD _ (by omega)) zx,?_⟩
   rw[←wb,XY,Nat.min_eq_left hmul]
 have hS0:=h.toG.upd hO (t':=ml (.slice A ys.length c2) e (rt u) ys) (w':=w) rfl rfl rfl (QY _) (fun _ _ _=>rfl) (fun b o hb=>hb) (fun g hg=>.inl (by
  have yb:(Value.slice A ys.length c2).ownBlock=some g:=hg
  rw[Fd A ys.length xs.length c2 c]at yb; exact yb)) (fun kq kn=>⟨rfl,_,kb,Xr zr kn⟩)
 have hS:=hS0.put h1 (.v (.slice A ys.length c2))
 refine H β (upd ρ d (.slice A ys.length c2)) _ _ _ hk ⟨rfl,rfl,rfl,Gm f3 (J0 d β ρ _)⟩ ?_
 have e4:Jx S.mem id++S.fixM=l1++l2:=by rw[←Kx hm]; exact e3
 have hS':=hS.perm (O':=ml (.slice A ys.length c2) e (rt u) ys::Qi β ρ (Jx S.mem id++S.fixM)) (by rw[e4]; simp[Qi,QB,List.perm_middle])
 exact Zn (S:={ S with mem:=Jx S.mem id }) (o:=.row e u ys) hX hr h.sz zi f1 f2 f3 hS' (by grind [Q0,Je,Gk.refl]) ⟨_,_,_,rfl⟩
theorem Q69(h:Rel X β ρ S.flat a w):∀{ps:List (Nat×Operand)} {vs:List (Nat×AV)} {c:AV} {j:Nat},Y0 S.flat [] ps=some vs→Q92 vs j=some c →
  ∃us:List Value,ps.map (fun p=>(p.1,a.eval p.2))=(List.range' j us.length).zip us∧us.length=vs.length∧(∀v∈us,Qu v=[v])∧cr β ρ (okR X β ρ S.flat.mem w) w false c us
 | [],vs,c,j,he,hx=>by
  simp[Y0]at he; subst he
  simp[Q92]at hx; subst hx
  exact⟨[],rfl,rfl,by simp,rfl⟩
 | (i,x)::ps,vs,c,j,he,hx=>by
  simp only[Y0]at he
  split at he
  ·rename_i v l hv hl
   simp at he; subst he
   simp only[Q92]at hx
   obtain⟨hb,hx⟩:=bvT hx
   simp only[QQ]at hb
   have:=Nat.eq_of_beq_eq_true hb.1
   subst this
   split at hx
   ·rename_i r hr
    simp at hx; subst hx
    obtain⟨us,q1,q2,q3,q4⟩:=Q69 h (ps:=ps) hl hr
    obtain⟨cs,p1,p2⟩:=h.ev (Qd a) hv
    have vv:∃q,a.eval x=.pointer q∧cr β ρ (okR X β ρ S.flat.mem w) w false v [.pointer q]:=by
     cases v with
     | np =>
      have p2':cs=_:=p2
      subst p2'
      exact⟨_,p1,rfl⟩
     | p id path =>
      have p2':cs=_:=p2
      subst p2'
      exact⟨_,p1,rfl⟩
     | _=>cases hb.2
    obtain⟨q,e1,e2⟩:=vv
    refine⟨a.eval x::us,?_,by simp[q2],fun u hu=>?_,?_⟩
    ·grind [List.length_cons,List.range'_succ,List.zip_cons_cons]
    ·rcases QJ.1 hu with rfl | hu
     ·rw[e1]; rfl
     ·exact q3 u hu
    ·exact⟨[.pointer q],us,by rw[e1]; rfl,e2,q4⟩
   ·cases hx
  ·cases he
theorem Qpr:∀{us:List Value},(∀v∈us,Qu v=[v])→us.flatMap Qu=us
 | [],_=>rfl
 | v::us,h=>by
  rw[JA,h v (.head _),Qpr fun u hu=>h u (.tail _ hu)]; rfl
theorem Jeu(hT:Q6 P Y.T)(hX:X.n=n)(hr:X.res=[])(h:Rel X β ρ S.flat a w){o:Oper}(hw:Region.wanted o (yielded ops a.tmps)=true){d:Nat}(hd:o.dst=some d)(zi:okW n S d=true)(hb:okB S d=true)
  {t:TypeId} {m:Nat} {ps:List (Nat×Operand)} (ko:o.op=.buildSlice t (m+1) ⟨ps⟩) {te ee:TE} {e:TypeId} (ku:Qh Y.T t=some te) (kr:te.d=.slice e) (he:Qh Y.T e=some ee)
  {vs:List (Nat×AV)} {c:AV} (uf:Y0 S.flat [] ps=some vs) (mq:Q92 vs 0=some c) (yf:Uz d c=true) (hl:Nat.beq vs.length (m+1)=true) (kg:Nat.beq ee.size 1=true) (xa:Nat.beq (Qu ee.z).length 1=true) (vw:Nat.ble (m+1) 16777216=true)
  (hk:k ((S.born d (.var e (.ag c))).put d [] (.w d 0 ((m+1:Nat):Int)))=some r) (H:KOk P ops Q rest X S β ρ k r):wpList P ops Q (o::rest) a w:=by
 obtain⟨us,q1,q2,q3,q4⟩:=Q69 h uf mq
 have yx:=Nat.eq_of_beq_eq_true kg
 have hul:us.length=m+1:=q2.trans (Nat.eq_of_beq_eq_true hl)
 have hzl':=Nat.eq_of_beq_eq_true xa
 have zz:(Uw (Qu ee.z) ((m+1)*ee.size)).length=(m+1)*ee.size:=by simp[Uw]
 have zt:=Qy4 us 0 (Uw (Qu ee.z) ((m+1)*ee.size)) (s:=ee.size) (fun v hv=>by rw[q3 v hv,yx]; rfl) (by rw[zz,QV,hul]; grind)
 rw[←q1]at zt
 have xr:Ni (Qbi ee.size) (Uw (Qu ee.z) ((m+1)*ee.size)) (ps.map (fun p=>(p.1,a.eval p.2)))=some us:=by
  rw[zt]
  simp only[XI,XM,QU,QV]
  rw[JR (by rw[zz,hul]; grind),QH,Qpr q3]
 have ka:(execOp a.eval o).run P w=.ok (.value (.slice (some ⟨w.heap.size,0,none⟩) (m+1) (m+1))) (w.alloc (.cells us.toArray e)):=by
  have hm:(Array.mk ps).map (fun(x:Nat×Operand)=>(x.1,a.eval x.2))=⟨ps.map (fun p=>(p.1,a.eval p.2))⟩:=by simp
  have xk:(underlying t).run P w=.ok (.slice e) w:=by rw[Ju hT w ku,kr]
  have ik:¬ (m+1)*ee.size>16777216:=by have:=QK vw; rw[yx]; omega
  have hf:Instr.fill (fun i=>some (i*ee.size,ee.size)) (Uw (Qu ee.z) ((m+1)*ee.size)).toArray (ps.map (fun p=>(p.1,a.eval p.2)))=some us.toArray:=Px _ xr
  have qm:(Array.range ((m+1)*ee.size)).map (fun x=>ee.z.cells[x % ee.z.cells.size]!)=(Uw (Qu ee.z) ((m+1)*ee.size)).toArray:=by
   rw[Vk]
   unfold Uw
   apply Array.ext
   ·simp
   grind [Vk,Nat.mod_lt]
  unfold execOp
  rw[ko]
  simp only[Instr.buildSlice,Sem.run_bind,xk,J5 hT w he,Result.andThen_ok,hm]
  have wo:m+1≠0:=by omega
  have nz:ee.size≠0:=by omega
  have h02:¬ (m+1)*ee.size=0:=by rw[yx]; omega
  generalize hM:m+1=M at *
  simp[ik,wo,nz,Vx hT w he,qm,hf,newRow]
  grind
 exact Jen (x:=.w d 0 ((m+1:Nat):Int)) (cv:=fun g=>[.slice (some ⟨g,0,none⟩) (m+1) (m+1)]) hX hr h hw hd zi hb ka (c:=.ag c) q4 yf (fun β ρ ok w=>⟨_,_,rfl,fun _=>rfl⟩) hk H
theorem Qzm(hT:Q6 P Y.T){β:Nat→Nat}{G:GL}{D:List DF}{O:List TL}(h:Sb β X G D [] O a w){t:TypeId}{len:Nat}{parts:List (Nat×Operand)}{d:Nat}{ps:String}{af:Array Edge}{ty:TypeId}{gd:Option (Nat×Bool)}
  (hg:Bm ops G ⟨some d,.buildSlice t len ⟨parts⟩,ty,ps,af,gd⟩=some true) (hlt:okD X d=true)
  {τ:Type} {r:RT τ} {xs:List τ} {vs:List Value} {pvs:List (Nat×Value)} (ax:evParts G parts=some pvs)
  {e:TypeId} {te ee:TE} (ht:Qh Y.T t=some te) (kr:te.d=.slice e) (he:Qh Y.T e=some ee) (hs:ee.size=r.size) (xm:xs.length=len)
  (vw:Nat.ble (len*ee.size) 16777216=true) (ay:Nat.ble 1 ee.size=true) (ed:1≤len) (hz:Nat.beq (Qu ee.z).length ee.size=true)
  (zt:Ni (Qbi ee.size) (Uw (Qu ee.z) (len*ee.size)) pvs=some (vs.flatMap Qu))
  (hv:Qr0 r (Jh X.ok X.w.heap.size β [] O w) w xs vs)
  (hk:∀b a' w',Sb β X (Sj G d (.v (.slice (some ⟨b,0,none⟩) xs.length len))) D [] (ml (.slice (some ⟨b,0,none⟩) xs.length len) e r xs::O) a' w'→wpList P ops Q rest a' w') :
  wpList P ops Q (⟨some d,.buildSlice t len ⟨parts⟩,ty,ps,af,gd⟩::rest) a w:=by
 have hps1:=QK ay
 have hsm1:=QK vw
 have ka:(execOp a.eval ⟨some d,.buildSlice t len ⟨parts⟩,ty,ps,af,gd⟩).run P w=.ok (.value (.slice (some ⟨w.heap.size,0,none⟩) xs.length len)) (w.alloc (.cells (vs.flatMap Qu).toArray e)):=by
  have xn:=Qfn h ax
  have hm:(Array.mk parts).map (fun(x:Nat×Operand)=>(x.1,a.eval x.2))=⟨pvs⟩:=by rw[←xn]; simp
  have xk:(underlying t).run P w=.ok (.slice e) w:=by rw[Ju hT w ht,kr]
  have ik:¬ len*ee.size>16777216:=by omega
  have xa:=Nat.eq_of_beq_eq_true hz
  have hf:Instr.fill (fun i=>some (i*ee.size,ee.size)) (Uw (Qu ee.z) (len*ee.size)).toArray pvs=some (vs.flatMap Qu).toArray:=Px _ zt
  have qm:(Array.range (len*ee.size)).map (fun x=>ee.z.cells[x % ee.z.cells.size]!)=(Uw (Qu ee.z) (len*ee.size)).toArray:=by
   rw[Vk]
   grind [Uw,Array.ext,Vk,Nat.mod_lt]
  unfold execOp
  simp only[Instr.buildSlice,Sem.run_bind,xk,J5 hT w he,Result.andThen_ok,hm]
  have wo:len≠0:=by omega
  have nz:ee.size≠0:=by omega
  have h0:¬ len*ee.size=0:=fun e=>by
   rcases Nat.mul_eq_zero.1 e with e | e<;>omega
  simp[ik,wo,nz,Vx hT w he,qm,hf,newRow,xm]
  grind
 refine Jr (Kc h hg) (Yr ka ?_)
 have hb:Below w.heap.size w (w.alloc (.cells (vs.flatMap Qu).toArray e)):=(Below.refl _ _).alloc (QY _) _
 have kq:Evo (Jh X.ok X.w.heap.size β [] O w) w (w.alloc (.cells (vs.flatMap Qu).toArray e)):=(Evo.of_below hb).mono fun b o hk=>hk.2.1
 obtain⟨aj,ef⟩:=Qyj hv
 have hlen:len≤len*ee.size:=XK len hps1
 refine hk _ _ _ ((h.allocTL hb (t:=ml (.slice (some ⟨w.heap.size,0,none⟩) xs.length len) e r xs) (fun g hg=>?_) ⟨rfl,vs.flatMap Qu,⟨?_,.inr ⟨w.heap.size,len,_,(0,0),rfl,QM _,heap_alloc_new w _,.inl rfl,?_,?_,?_,?_⟩⟩,?_⟩).put hlt (.v _))
 ·have hg:some w.heap.size=some g:=hg
  grind
 ·grind [K2]
 ·grind [K2]
 ·rw[Lc]; omega
 ·grind
 ·grind [K2,List.take_length]
 ·refine Xr (Fg (Qo1 hv) kq) fun b o hk=>?_
  obtain⟨h1,h2,h3,h4⟩:=hk
  refine⟨h1,QC h2 hb.size,h3,fun u hu hc=>?_⟩
  rcases QJ.1 hu with rfl | hu
  ·have y8:some w.heap.size=some b:=hc
   grind
  ·exact h4 u hu hc
theorem Yq{d:TypeDesc}{e:TypeId}(h:Ys d=some e):d=.slice e:=by
 cases d<;>simp[Ys]at h
 subst h; rfl
end
end Gx

/- A region, operation by operation. -/
namespace Gx
open Go Go.RowKit Gd
set_option linter.unusedVariables false
set_option linter.unusedSimpArgs false
section
variable {P:Program} {Y:TX} {X:Cx} {S:XS} {β β':Nat→Nat} {ρ ρ':Nat→Value} {a a':Act} {w w':World} {n:Nat}
variable {ops:Array Oper} {Q:Exit→Act→World→Prop} {rest:List Oper} {R:Type} {k:XS→Option R} {r:R}
theorem Qtl(hT:Q6 P Y.T)(hX:X.n=n)(hr:X.res=[])(h:Rel X β ρ S.flat a w){o:Oper}(hw:Region.wanted o (yielded ops a.tmps)=true)(hs:Qfx Y n o S k=some r)(H:KOk P ops Q rest X S β ρ k r) :
  wpList P ops Q (o::rest) a w:=by
 unfold Qfx at hs
 split at hs
 ·
  rename_i t d ko hd
  split at hs
  ·rename_i e ty he hty
   split at hs
   ·rename_i c hc
    obtain⟨hb,hk⟩:=bvT hs
    simp only[QQ]at hb
    refine Jk2 (cs:=Qu e.z) hX hr h hw hd hb.1.1.1 hb.1.1.2 ?_ (I7 hc) hb.2 hk H
    unfold execOp
    simp only[ko]
    simp[Instr.alloc,Vx hT w he,newVar,newRow,Vk]
   ·cases hs
  ·cases hs
 ·
  rename_i t x d ko hd
  split at hs
  ·rename_i c hc
   obtain⟨hb,hk⟩:=bvT hs
   simp only[QQ]at hb
   obtain⟨cs,h1,h2⟩:=h.ev (Qd a) hc
   refine Jk2 (cs:=cs) hX hr h hw hd hb.1.1.1.1 hb.1.1.1.2 ?_ h2 hb.2 hk H
   have xg:=Nl h2 hb.1.1.2 hb.1.2
   have yc:(c.val cs).cells=cs.toArray:=by
    grind [Array.ext',Vk]
   simp_all [execOp,Instr.box,newVar,newRow]
  ·cases hs
 ·
  rename_i t p x ko hd
  split at hs
  ·rename_i e id path v he hp hx
   split at hs
   ·rename_i tid c hm
    split at hs
    ·rename_i c' y8
     obtain⟨hb,hk⟩:=bvT hs
     simp only[QQ]at hb
     exact Q65 hT h hw ko hd he hp hx hm (fun _ h1 h2=>Sr h1 y8 h2) hb.1.1 hb.1.2 hb.2 hk H
    ·cases hs
   ·cases hs
  ·rename_i e id j sz ps v he hp hx
   split at hs
   ·rename_i et u xs hm
    obtain⟨y,hy,hs⟩:=Yj hs
    split at hs
    ·rename_i c hc
     split at hs
     ·rename_i z0 hz
      obtain⟨hb,hk⟩:=bvT hs
      simp only[QQ]at hb
      grind [Jac]
     ·cases hs
    ·cases hs
   ·cases hs
  ·cases hs
 ·
  rename_i t rs d ko hd
  split at hs
  ·rename_i te ku
   split at hs
   ·rename_i kt et kr
    split at hs
    ·rename_i kk v jw hv
     obtain⟨hb,hk⟩:=bvT hs
     simp only[QQ]at hb
     have hrs:rs=none:=by
      cases rs with
      | none=>rfl
      | some x=>simp[isNone]at hb
     grind [Jab]
    ·cases hs
   ·cases hs
  ·cases hs
 ·
  rename_i t m ky x ko hd
  split at hs
  ·rename_i te id kv xv ku hm ux hx
   split at hs
   ·rename_i kt et kk v xs kr ug
    split at hs
    ·rename_i tk key y xz yi hy
     obtain⟨hb,hk⟩:=bvT hs
     simp only[QQ]at hb
     exact Qze hT h hw ko hd ku kr xz hm ux hx ug yi hy hb.1.1 hb.1.2 hb.2 hk H
    ·cases hs
   ·cases hs
  ·cases hs
 ·
  rename_i t l c d ko hd
  split at hs
  ·rename_i te lv cv ku hl hc
   split at hs
   ·rename_i e k1 nl k2 nc zh hli hci
    split at hs
    ·rename_i ee u he hu
     split at hs
     ·rename_i za mr
      split at hs
      ·rename_i z0 hz
       obtain⟨hb,hs⟩:=bvT hs
       simp only[QQ]at hb
       obtain⟨zs,xb,hk⟩:=Yj hs
       exact Jnx hT hX hr h hw hd hb.1.1.1.1 hb.1.1.1.2 ko ku (Yq zh) he hl hc hli hci mr hz hb.1.1.2 hb.1.2 hb.2 xb hk H
      ·cases hs
     ·cases hs
    ·cases hs
   ·cases hs
  ·cases hs
 ·
  rename_i t len parts d ko hd
  split at hs
  ·rename_i te ku
   split at hs
   ·rename_i e zh
    split at hs
    ·rename_i ee u he hu
     obtain⟨hb,hs⟩:=bvT hs
     simp only[QQ]at hb
     split at hs
     ·obtain⟨z8,hk⟩:=bvT hs
      exact Jny hT hX hr h hw hd hb.1 z8 ko ku (Yq zh) he hb.2 hk H
     ·cases hs
     ·rename_i m
      split at hs
      ·rename_i vs uf
       split at hs
       ·rename_i xs xp
        obtain⟨z8,hk⟩:=bvT hs
        simp only[QQ]at z8
        exact Jpi hT hX hr h hw hd hb.1 ko ku (Yq zh) he hb.2 uf xp z8.1.1.1 z8.1.1.2 z8.1.2 z8.2 hk H
       ·cases hs
      ·cases hs
    ·cases hs
   ·cases hs
  ·cases hs
 ·
  rename_i s x t t' d ko hd
  split at hs
  ·rename_i te sv xv ku ta rh
   split at hs
   ·rename_i e zh
    split at hs
    ·rename_i ee he
     have hb:=(bvT hs).1
     replace hs:=(bvT hs).2
     simp only[QQ]at hb
     obtain⟨⟨⟨⟨b1,b2⟩,b3⟩,b4⟩,b5⟩:=hb
     have ett:=Nat.eq_of_beq_eq_true b2
     subst ett
     split at hs
     ·split at hs
      ·rename_i u hu
       split at hs
       ·rename_i ys zu
        have z8:=(bvT hs).1
        replace hs:=(bvT hs).2
        simp only[QQ]at z8
        obtain⟨zs,xb,hk⟩:=Yj hs
        exact Jeq hT hX hr h hw hd b1 z8.1 ko ku (Yq zh) he z8.2 b3 b4 b5 ta rh zu xb hk H
       ·cases hs
      ·cases hs
     ·split at hs
      ·rename_i u hu
       split at hs
       ·rename_i ys zu
        have z8:=(bvT hs).1
        replace hs:=(bvT hs).2
        simp only[QQ]at z8
        obtain⟨zs,xb,hk⟩:=Yj hs
        exact Jnz hT hX hr h hw hd b1 z8.1 ko ku (Yq zh) he z8.2 b3 b4 b5 ta rh zu xb hk H
       ·cases hs
      ·cases hs
     ·rename_i id
      split at hs
      ·rename_i e' u xs hm
       split at hs
       ·rename_i ys zu
        have z8:=(bvT hs).1
        replace hs:=(bvT hs).2
        simp only[QQ]at z8
        have ee':=Nat.eq_of_beq_eq_true z8.2
        subst ee'
        obtain⟨zs,xb,hk⟩:=Yj hs
        exact Jer hT hX hr h hw hd b1 z8.1.1 ko ku (Yq zh) he z8.1.2 b3 b4 b5 ta rh hm zu xb hk H
       ·cases hs
      ·rename_i e' u xs hm
       split at hs
       ·rename_i ys zu
        have z8:=(bvT hs).1
        replace hs:=(bvT hs).2
        simp only[QQ]at z8
        have ee':=Nat.eq_of_beq_eq_true z8.2
        subst ee'
        obtain⟨zs,xb,hk⟩:=Yj hs
        exact Jad hT hX hr h hw hd b1 z8.1.1 ko ku (Yq zh) he z8.1.2 b3 b4 b5 ta rh hm zu xb hk H
       ·cases hs
      ·cases hs
     ·cases hs
    ·cases hs
   ·cases hs
  ·cases hs
 ·
  obtain⟨hb,hs⟩:=bvT hs
  obtain⟨av,hk,vp⟩:=Qy7 (P:=P) hT rfl hs
  grind [Jem]
 ·cases hs
theorem Jev(hT:Q6 P Y.T)(hX:X.n=n)(hr:X.res=[])(h:Rel X β ρ S.flat a w){o:Oper}(hw:Region.wanted o (yielded ops a.tmps)=true)(hs:Qs9 Y n o S k=some r)(H:KOk P ops Q rest X S β ρ k r) :
  wpList P ops Q (o::rest) a w:=by
 unfold Qs9 at hs
 split at hs
 ·
  rename_i s x t t' d ko hd
  split at hs
  ·rename_i te te' sv l ku uu ta rh
   split at hs
   ·rename_i e zh
    split at hs
    ·rename_i ee he
     obtain⟨hb,hs⟩:=bvT hs
     simp only[QQ]at hb
     obtain⟨⟨⟨⟨b1,b2⟩,b3⟩,b4⟩,b5⟩:=hb
     have b2:=Jae b2
     have b3:=Jjh b3
     have b4:=Nat.eq_of_beq_eq_true b4
     have b5:=Nat.eq_of_beq_eq_true b5
     split at hs
     ·obtain⟨z8,hs⟩:=bvT hs
      obtain⟨zs,xb,hk⟩:=Yj hs
      exact Jag hT hX hr h hw hd b1 z8 ko ku (Yq zh) uu b2 he b3 b4 b5 ta rh xb hk H
     ·rename_i id
      split at hs
      ·rename_i e' xs hm
       obtain⟨z8,yp⟩:=bvT hs
       simp only[QQ]at z8
       have ee':=Nat.eq_of_beq_eq_true z8.2
       subst ee'
       obtain⟨zs,xb,hk⟩:=Yj yp
       exact Jaf hT hX hr h hw hd b1 z8.1 ko ku (Yq zh) uu b2 he b3 b4 b5 ta rh hm xb hk H
      ·cases hs
     ·cases hs
    ·cases hs
   ·cases hs
  ·cases hs
 ·
  rename_i s t x d ko hd
  split at hs
  ·rename_i se te l zh ku hx
   split at hs
   ·rename_i e wi
    split at hs
    ·rename_i ee he
     obtain⟨hb,hs⟩:=bvT hs
     simp only[QQ]at hb
     obtain⟨zs,xb,hk⟩:=Yj hs
     exact Q4i hT hX hr h hw hd hb.1.1 hb.1.2 ko zh ku (Yq wi) he (Jji hb.2) hx xb hk H
    ·cases hs
   ·cases hs
  ·cases hs
 ·
  rename_i t p x ko hd
  split at hs
  ·rename_i e id path v he hp hx
   split at hs
   ·rename_i tid c hm
    obtain⟨c',y8,wu⟩:=Qvz hs
    obtain⟨hb,hk⟩:=bvT y8
    simp only[QQ]at hb
    grind [Q65]
   ·cases hs
  ·cases hs
 ·
  rename_i dst src t t' d ko hd
  split at hs
  ·rename_i te id xv ku hdv ta
   split at hs
   ·rename_i e zh
    split at hs
    ·rename_i ee et u xs he hm
     split at hs
     ·rename_i ys zu
      obtain⟨hb,hk⟩:=bvT hs
      simp only[QQ]at hb
      exact Jn0 hT hX hr h hw hd hb.1.1 ko ku (Yq zh) he hdv ta hm zu hb.1.2 hb.2 hk H
     ·cases hs
    ·cases hs
   ·cases hs
  ·cases hs
 ·
  rename_i m ky t t' ko hd
  split at hs
  ·rename_i te id kv ku hm ux
   split at hs
   ·rename_i kt et kk v xs kr ug
    split at hs
    ·rename_i tk key xz yi
     obtain⟨hb,hk⟩:=bvT hs
     simp only[QQ]at hb
     grind [Jes]
    ·cases hs
   ·cases hs
  ·cases hs
 ·
  rename_i t m ps d ko hd
  split at hs
  ·rename_i te ku
   split at hs
   ·rename_i e zh
    split at hs
    ·rename_i ee vs he uf
     split at hs
     ·rename_i c mq
      obtain⟨hb,hk⟩:=bvT hs
      simp only[QQ]at hb
      obtain⟨⟨⟨⟨⟨⟨b1,b2⟩,b3⟩,b4⟩,b5⟩,b6⟩,b7⟩:=hb
      exact Jeu hT hX hr h hw hd b1 b2 ko ku (Yq zh) he uf mq b3 b4 b5 b6 b7 hk H
     ·cases hs
    ·cases hs
   ·cases hs
  ·cases hs
 ·
  rename_i t x hi d ko hd
  split at hs
  ·rename_i te id ku hx
   split at hs
   ·rename_i e e' u xs zh hm
    split at hs
    ·rename_i ee q he hq
     obtain⟨hb,yp⟩:=bvT hs
     simp only[QQ]at hb
     have ee':=Nat.eq_of_beq_eq_true hb.2
     subst ee'
     obtain⟨ys,zu,hk⟩:=Yj yp
     exact Jet hT hX hr h hw hd hb.1.1.1 hb.1.1.2 ko ku (Yq zh) he hb.1.2 hx hm hq zu (.inl rfl) hk H
    ·cases hs
   ·cases hs
  ·cases hs
 ·
  rename_i t x hi mx d ko hd
  split at hs
  ·rename_i te id hv mv ku hx su u9
   split at hs
   ·rename_i e e' u xs k1 q k2 m zh hm hib qq
    split at hs
    ·rename_i ee he
     obtain⟨hb,yp⟩:=bvT hs
     simp only[QQ]at hb
     have ee':=Nat.eq_of_beq_eq_true hb.2
     subst ee'
     obtain⟨_,vt,eh⟩:=Yj yp
     obtain⟨vt,_⟩:=bvT vt
     simp only[QQ,decide_eq_true_eq]at vt
     obtain⟨ys,zu,hk⟩:=Yj eh
     have hq:bnd S.flat [] xs.length (some hi)=some q:=by
      have hhi':ev S.flat [] hi=some hv:=su
      grind [bnd]
     exact Jet hT hX hr h hw hd hb.1.1.1 hb.1.1.2 ko ku (Yq zh) he hb.1.2 hx hm hq zu (.inr ⟨hi,mx,k1,k2,m,rfl,rfl,h.toW.int (Qd a) su hib,h.toW.int (Qd a) u9 qq,vt.1,vt.2⟩) hk H
    ·cases hs
   ·cases hs
  ·cases hs
 ·cases hs
theorem Qps(hT:Q6 P Y.T)(hX:X.n=n)(hr:X.res=[])(h:Rel X β ρ S.flat a w){o:Oper}(hw:Region.wanted o (yielded ops a.tmps)=true)(hs:Qll Y n o S k=some r)(H:KOk P ops Q rest X S β ρ k r) :
  wpList P ops Q (o::rest) a w:=by
 grind [Qll,Qtl,Jev]
theorem Wv{o:Oper}(hg:o.guard=none)(y:Nat→Option Bool):Region.wanted o y=true:=by grind [Region.wanted]
theorem Vr{l:List Oper}{o:Oper}{t:Nat}{b:Bool}(hg:Qfv l o=some (some (t,b))):Region.wanted o (yielded ⟨l⟩ a.tmps)=true↔a.tmps[t]?=some (.bool b):=by
 unfold Qfv at hg
 split at hg
 ·cases hg
 ·rename_i j want hgd
  split at hg
  ·rename_i p hp
   split at hg
   ·rename_i t' ht
    simp at hg
    obtain⟨rfl,rfl⟩:=hg
    have xe:(Array.mk l)[j]?=some p:=by simpa using hp
    unfold Region.wanted
    rw[hgd]
    simp only[yielded,xe,QW,ht,beq_iff_eq]
    grind
   ·cases hg
  ·cases hg
theorem I8{l:List Oper}{o:Oper}(hg:Qfv l o=some none):o.guard=none:=by
 grind [Qfv]
theorem Qlp{o:Oper}(hw:Region.wanted o (yielded ops a.tmps)=false)(h:wpList P ops Q rest (a.put o.dst undef) w):wpList P ops Q (o::rest) a w:=by
 simp_all [wpList,if_neg]
theorem Qzn(hX:X.n=n)(hr:X.res=[])(h:Rel X β ρ S.flat a w){o:Oper}(hw:Region.wanted o (yielded ops a.tmps)=false)(hs:Qbw n o S k=some r)(H:KOk P ops Q rest X S β ρ k r) :
  wpList P ops Q (o::rest) a w:=by
 refine Qlp hw ?_
 unfold Qbw at hs
 split at hs
 ·rename_i d hd
  obtain⟨hb,hk⟩:=bvT hs
  obtain⟨h1,h2⟩:=Vb hb hX hr
  rw[hd]
  refine H β ρ _ _ _ hk (Gn S d [] _) ?_
  rw[Xk h2]
  exact h.put0 h1 (x:=.tp .nil) (c:=[.tuple #[]]) ⟨[],rfl,rfl⟩
 ·rename_i hd
  rw[hd]
  exact H β ρ _ _ _ hs (Yx.refl _ _ _) h
theorem Jew(hT:Q6 P Y.T)(hX:X.n=n)(hr:X.res=[])(h:Rel X β ρ S.flat a w){l:List Oper}{o:Oper}{t:Nat}{want:Bool}(hg:Qfv l o=some (some (t,want)))(hs:Qhq Y n t want o S k=some r)(H:KOk P ⟨l⟩ Q rest X S β ρ k r) :
  wpList P ⟨l⟩ Q (o::rest) a w:=by
 unfold Qhq at hs
 split at hs
 ·rename_i t' cs b d he hd
  obtain⟨hb,hs⟩:=bvT hs
  simp only[QQ]at hb
  obtain⟨h1,h2⟩:=Vb hb.1.1 hX hr
  have kr:=neB hb.1.2
  have hud:∀c∈cs,c.1≠d:=Qbp (by grind)
  split at hs
  ·rename_i v hv
   obtain⟨hm,k9⟩:=Uy he
   simp only at k9
   subst k9
   have xf:∀u:Value,Js (a.put (some d) u) ((t',want)::cs)↔Js a ((t',want)::cs):=by
    intro u
    have zk:∀c∈(t',want)::cs,c.1≠d:=by
     grind
    exact⟨fun hc c hm=>by rw[←Yz (zk c hm) u]; exact hc c hm,fun hc c hm=>by rw[Yz (zk c hm) u]; exact hc c hm⟩
   by_cases hw:Region.wanted o (yielded ⟨l⟩ a.tmps)=true
   ·have vf:=(Vr hg).1 hw
    have zx:Js a cs:=by
     rcases(h.en hm).2 with h3 | h3
     ·exact h3
     grind [Nm,Qbn,undef]
    have wb:Js a ((t',want)::cs):=by
     intro c hc
     rcases QJ.1 hc with rfl | hc
     ·exact vf
     ·exact zx c hc
    obtain⟨c,h3,h4⟩:=Qhn hT h.toW wb hv
    refine Jr hw (Yr h3 ?_)
    rw[hd]
    refine H β ρ _ _ _ hs (Gn S d _ _) ?_
    rw[Xk h2]
    exact h.put h1 (fun _=>⟨c,rfl,h4⟩) (.inl ((xf _).2 wb))
   ·have qh:Region.wanted o (yielded ⟨l⟩ a.tmps)=false:=by simpa using hw
    refine Qlp qh ?_
    rw[hd]
    refine H β ρ _ _ _ hs (Gn S d _ _) ?_
    rw[Xk h2]
    refine h.put h1 (fun hc=>?_) (.inr rfl)
    have:=(xf _).1 hc
    exact absurd ((Vr hg).2 (this _ (.head _))) hw
  ·cases hs
 ·cases hs
theorem Jex(hT:Q6 P Y.T)(hX:X.n=n)(hr:X.res=[]){l:List Oper}(h:Rel X β ρ S.flat a w){o:Oper}(hs:Qhr Y n l o S k=some r)(H:KOk P ⟨l⟩ Q rest X S β ρ k r):wpList P ⟨l⟩ Q (o::rest) a w:=by
 grind [Qhr,Qps,Wv,I8,Jew]
theorem Jey(hT:Q6 P Y.T)(hX:X.n=n)(hr:X.res=[]){l:List Oper}(h:Rel X β ρ S.flat a w){o:Oper}(hs:Gx.stepL Y n l o S k=some r)(H:KOk P ⟨l⟩ Q rest X S β ρ k r):wpList P ⟨l⟩ Q (o::rest) a w:=by
 unfold Gx.stepL at hs
 split at hs
 ·grind [Qps,Wv,I8]
 ·rename_i t want hg
  split at hs
  ·rename_i t' b he
   obtain⟨cs,h1,h2⟩:=h.get he (Qd a)
   have zb:cs=_:=h2
   subst zb
   have k8:a.tmps[t]?=some (.bool b):=h1
   split at hs
   ·grind [Qps,Vr]
   ·rename_i hb
    refine Qzn hX hr h ?_ hs H
    have zk:b≠want:=by simpa using hb
    cases hw:Region.wanted o (yielded ⟨l⟩ a.tmps)with
    | false=>rfl
    | true =>
     have:=(Vr hg).1 hw
     rw[k8]at this
     grind
  ·rename_i t' he
   obtain⟨cs,h1,vs,h2,h3⟩:=h.get he (Qd a)
   subst h2
   refine Qzn hX hr h ?_ hs H
   cases hw:Region.wanted o (yielded ⟨l⟩ a.tmps)with
   | false=>rfl
   | true =>
    have:=(Vr hg).1 hw
    rw[h1]at this
    injection this with this
    cases this
  ·cases hs
 ·cases hs
theorem Qwb{l:List Oper}(st:Oper→XS→(XS→Option R)→Option R)
  (zj:∀{o:Oper} {rest:List Oper} {S:XS} {β:Nat→Nat} {ρ:Nat→Value} {a:Act} {w:World} {k:XS→Option R},Rel X β ρ S.flat a w→st o S k=some r→KOk P ⟨l⟩ Q rest X S β ρ k r→wpList P ⟨l⟩ Q (o::rest) a w) :
  ∀{l1 rest:List Oper} {S:XS} {β:Nat→Nat} {ρ:Nat→Value} {a:Act} {w:World} {k:XS→Option R},Rel X β ρ S.flat a w→Qmm st l1 S k=some r→KOk P ⟨l⟩ Q rest X S β ρ k r→wpList P ⟨l⟩ Q (l1++rest) a w
 | [],rest,S,β,ρ,a,w,k,h,hs,H=>H β ρ S a w hs (Yx.refl _ _ _) h
 | o::l1,rest,S,β,ρ,a,w,k,h,hs,H=>by
  simp only[Qmm]at hs
  refine zj (rest:=l1++rest) h hs fun β' ρ' S' a' w' hk xf h'=>?_
  exact Qwb st zj h' hk (H.after xf)
end
end Gx

/- A map's entry that is made first and written then. -/
namespace Gx
open Go Go.RowKit Gd
set_option linter.unusedVariables false
set_option linter.unusedSimpArgs false
section
variable {P:Program} {T:Tab}
end
section
variable {P:Program} {Y:TX} {X:Cx} {S:XS} {β β':Nat→Nat} {ρ ρ':Nat→Value} {a a':Act} {w w':World} {n:Nat}
variable {ops:Array Oper} {Q:Exit→Act→World→Prop} {rest:List Oper} {R:Type} {k:XS→Option R} {r:R}
end
end Gx
