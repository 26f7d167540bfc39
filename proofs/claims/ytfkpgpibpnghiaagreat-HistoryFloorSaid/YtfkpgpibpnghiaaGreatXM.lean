/- Steps that make slices. -/
import Derived.Test.YtfkpgpibpnghiaaGreatXJ
namespace Gx
open Go Go.RowKit Gd
set_option linter.unusedVariables false
set_option linter.unusedSimpArgs false
section
variable {P:Program} {Y:TX} {X:Cx} {S:XS} {β β':Nat→Nat} {ρ ρ':Nat→Value} {a a':Act} {w w':World} {n:Nat}
variable {ops:Array Oper} {Q:Exit→Act→World→Prop} {rest:List Oper} {R:Type} {k:XS→Option R} {r:R}
theorem Jz(d:Nat)(β:Nat→Nat)(ρ:Nat→Value)(v:Value):Qhs d β β ρ (upd ρ d v):=fun i h=>⟨rfl,Br _ _ h⟩
theorem Zl{M:List (Nat×Ob)}(hX:X.n=n)(hr:X.res=[])(kj:a.tmps.size=X.n){d:Nat}(zi:okW n S d=true)(hF:J6 d M=true)(hI:Qhl d S.fix=true)(hp:Yd S.prot d=false){v:Value}{o:Ob}{T':TL}
  (hS:Sb (fun _=>0) X (Se (Qht X.n a) d (.v v)) ((S.env++S.fix).map (enD β ρ a)) [] (T'::Qi β ρ M) a' w') (hT:Gi T' (Q0 β (upd ρ d v) d o)) (hv:∃A m c,v=.slice A m c) :
  Rel X β (upd ρ d v) ⟨⟨d,[],.s d⟩::(Yy (Vq d S.env) d++S.fix),(d,o)::M⟩ a' w':=by
 obtain⟨h1,h2⟩:=Vb zi hX hr
 have ha:=Jz d β ρ v
 refine Rel.fin (β':=β) (ρ':=upd ρ d v) (mem':=(d,o)::M) (fun _ _=>trivial) hS kj h1 (.cons hT (Sp ha hF)) (fun e he ok w cs hc=>?_) (fun e he=>?_) (x:=.s d) (c:=[v]) rfl ?_
 ·exact Gj ha (Ll hI h2 e he).2.1 hc
 ·obtain⟨q1,_,q3,q4⟩:=Ll hI h2 e he
  exact⟨q1,q3,q4⟩
 ·refine⟨⟨_,rfl,.inl (by rw[Je])⟩,?_⟩
  rw[Je]; exact hv
theorem Bt(o:Oper):o=⟨o.dst,o.op,o.type,o.pos,o.after,o.guard⟩:=by cases o; rfl
theorem Rel.dropM{S:St}(h:Rel X β ρ S a w){id:Nat}{o:Ob}(hm:Qe S.mem id=some o):Rel X β ρ ⟨S.env,Jx S.mem id⟩ a w:=by
 obtain⟨l1,l2,e1,_,e3⟩:=Jv hm
 have wx:(Qi β ρ (l1++l2)).Sublist (Qi β ρ S.mem):=by
  rw[e1]
  grind
 unfold Rel at h ⊢
 show Sb _ _ _ _ _ (Qi β ρ (Jx S.mem id)) _ _
 rw[e3]
 exact Sb.remake h (fun t' k9=>.inl ⟨t',wx.subset k9,fun _ hg=>hg,fun _ _ hc=>hc,(h.own t' (wx.subset k9)).1⟩) (h.dOO.sublist wx)
theorem Jnj(hT:Q6 P Y.T)(hX:X.n=n)(hr:X.res=[])(h:Rel X β ρ S.flat a w){o:Oper}(hw:Region.wanted o (yielded ops a.tmps)=true){d:Nat}(hd:o.dst=some d)(zi:okW n S d=true)(hb:okB S d=true)
  {t:TypeId} {l c:Operand} (ko:o.op=.makeSlice t l c) {te ee:TE} {e:TypeId} (ku:Qh Y.T t=some te) (kr:te.d=.slice e) (he:Qh Y.T e=some ee) {lv cv:AV} (hl:S.ev [] l=some lv) (hc:S.ev [] c=some cv)
  {k1 k2:IntKind} {nl nc:Int} (hli:Xg lv=some (k1,nl)) (hci:Xg cv=some (k2,nc)) {u:Ty} {za:AV} {z:u.De} (mn:So u ee.z=some za) (hz:asD [] za u=some z) (kj:Nat.beq ee.size u.size=true)
  (y8:Nat.beq (Qu ee.z).length ee.size=true) (yi:Nat.ble 1 ee.bytes=true) {zs:List u.De} (qi:mkL ee.bytes nl nc z=some zs)
  (hk:k ((S.born d (.row e u zs)).put d [] (.s d))=some r) (H:KOk P ops Q rest X S β ρ k r):wpList P ops Q (o::rest) a w:=by
 obtain⟨f1,f2,f3⟩:=H1 hb
 obtain⟨h1,h2⟩:=Vb zi hX hr
 have hg:=Lk h hw
 rw[Bt o,hd,ko]at hg ⊢
 refine Q9g hT h.toG (r:=rt u) hg h1 ku kr he (by rw[Jp]; simp_all) y8 yi (fun ok w=>K2 (β:=β) (ρ:=ρ) (M:=[]) (by simp[Qe]) hz (I4 mn))
  (by rw[gvE h (Qd a) hl,h.int (Qd a) hl hli]) (by rw[gvE h (Qd a) hc,h.int (Qd a) hc hci]) qi fun b a' w' hS=>?_
 refine H β (upd ρ d (.slice (some ⟨b,0,none⟩) zs.length nc.toNat)) _ _ _ hk (U0 f3 (Jz d β ρ _) _ _ _) ?_
 have:=Zl (o:=.row e u zs) hX hr h.sz zi f1 f2 f3 hS (by grind [Q0,Je,Gi.refl]) ⟨_,_,_,rfl⟩
 exact this
theorem Jnk(hT:Q6 P Y.T)(hX:X.n=n)(hr:X.res=[])(h:Rel X β ρ S.flat a w){o:Oper}(hw:Region.wanted o (yielded ops a.tmps)=true){d:Nat}(hd:o.dst=some d)(zi:okW n S d=true)(hb:okB S d=true)
  {t:TypeId} (ko:o.op=.buildSlice t 0 ⟨[]⟩) {te ee:TE} {e:TypeId} (ku:Qh Y.T t=some te) (kr:te.d=.slice e) (he:Qh Y.T e=some ee) {u:Ty} (kj:Nat.beq ee.size u.size=true)
  (hk:k ((S.born d (.row e u [])).put d [] (.s d))=some r) (H:KOk P ops Q rest X S β ρ k r):wpList P ops Q (o::rest) a w:=by
 obtain⟨f1,f2,f3⟩:=H1 hb
 obtain⟨h1,h2⟩:=Vb zi hX hr
 have hg:=Lk h hw
 rw[Bt o,hd,ko]at hg ⊢
 refine Qol hT h.toG (r:=rt u) hg h1 ku kr he fun b a' w' _ hS=>?_
 refine H β (upd ρ d (.slice (some ⟨b,0,none⟩) (List.length ([]:List u.De)) 0)) _ _ _ hk (U0 f3 (Jz d β ρ _) _ _ _) ?_
 have e1:ee.size=(rt u).size:=by rw[Jp]; simp_all
 rw[e1]at hS
 have:=Zl (o:=.row e u []) hX hr h.sz zi f1 f2 f3 (hS.melt0) (by grind [Q0,Je,Gi.refl]) ⟨_,_,_,rfl⟩
 exact this
theorem Qv5(h:Rel X β ρ S.flat a w){u:Ty}:∀{ps:List (Nat×Operand)} {vs:List (Nat×AV)} {xs:List u.De} {j:Nat},Y0 S.flat [] ps=some vs→asLs S.flat.mem u vs j=some xs →
  ∃us:List Value,ps.map (fun p=>(p.1,a.eval p.2))=(List.range' j us.length).zip us∧Qrv (rt u) (okR X β ρ S.flat.mem w) w xs us∧us.length=xs.length∧evParts (Qht X.n a) ps=some (ps.map (fun p=>(p.1,a.eval p.2)))
 | [],vs,xs,j,he,hx=>by
  simp[Y0]at he; subst he
  simp[asLs]at hx; subst hx
  exact⟨[],rfl,trivial,rfl,rfl⟩
 | (i,x)::ps,vs,xs,j,he,hx=>by
  simp only[Y0]at he
  split at he
  ·rename_i v l hv hl
   simp at he; subst he
   simp only[asLs]at hx
   obtain⟨hb,hx⟩:=bvT hx
   simp only[QQ]at hb
   have:=Nat.eq_of_beq_eq_true hb.1
   subst this
   split at hx
   ·rename_i y ys hy zw
    simp at hx; subst hx
    obtain⟨us,q1,q2,q3,q4⟩:=Qv5 h (u:=u) (ps:=ps) hl zw
    have p7:=h.asD (Qd a) hv hy (bEq hb.2)
    refine⟨a.eval x::us,?_,⟨p7,q2⟩,by simp[q3],?_⟩
    ·grind [List.length_cons,List.range'_succ,List.zip_cons_cons]
    ·simp only[evParts,gvE h (Qd a) hv,q4,QP]
   ·cases hx
  ·cases he
theorem Jo6(hT:Q6 P Y.T)(hX:X.n=n)(hr:X.res=[])(h:Rel X β ρ S.flat a w){o:Oper}(hw:Region.wanted o (yielded ops a.tmps)=true){d:Nat}(hd:o.dst=some d)(zi:okW n S d=true)
  {t:TypeId} {m:Nat} {ps:List (Nat×Operand)} (ko:o.op=.buildSlice t (m+1) ⟨ps⟩) {te ee:TE} {e:TypeId} (ku:Qh Y.T t=some te) (kr:te.d=.slice e) (he:Qh Y.T e=some ee) {u:Ty} (kj:Nat.beq ee.size u.size=true)
  {vs:List (Nat×AV)} {xs:List u.De} (uf:Y0 S.flat [] ps=some vs) (xn:asLs S.flat.mem u vs 0=some xs) (hl:Nat.beq xs.length (m+1)=true) (vw:Nat.ble ((m+1)*ee.size) 16777216=true) (zr:Nat.ble 1 ee.size=true)
  (y8:Nat.beq (Qu ee.z).length ee.size=true) (hk:k (S.put d [] (.d (.sl u) xs))=some r) (H:KOk P ops Q rest X S β ρ k r):wpList P ops Q (o::rest) a w:=by
 obtain⟨h1,h2⟩:=Vb zi hX hr
 have hg:=Lk h hw
 obtain⟨us,q1,q2,q3,q4⟩:=Qv5 h uf xn
 have yu:=Nat.eq_of_beq_eq_true kj
 have xl:=Nat.eq_of_beq_eq_true hl
 have xf:∀v∈us,(Qu v).length=ee.size:=by
  have key:∀{xs:List u.De} {us:List Value},Qrv (rt u) (okR X β ρ S.flat.mem w) w xs us→∀v∈us,(Qu v).length=ee.size:=by
   intro xs
   induction xs with
   | nil=>intro us hu v hv; cases us with
    | nil=>cases hv
    | cons _ _=>cases hu
   | cons x xs ih =>
    intro us hu v hv
    cases us with
    | nil=>cases hv
    | cons y us =>
     rcases QJ.1 hv with rfl | hv
     ·rw[(rt u).len (Bm hu.1),Jp,yu]
     ·exact ih hu.2 v hv
  exact key q2
 have zy:(Uw (Qu ee.z) ((m+1)*ee.size)).length=(m+1)*ee.size:=by simp[Uw]
 have zq:=Qy2 us 0 (Uw (Qu ee.z) ((m+1)*ee.size)) xf (by rw[zy,QK,q3,xl]; grind)
 rw[←q1]at zq
 have xq:Nf (Qbf ee.size) (Uw (Qu ee.z) ((m+1)*ee.size)) (ps.map (fun p=>(p.1,a.eval p.2)))=some (us.flatMap Qu):=by
  rw[zq]
  grind
 rw[Bt o,hd,ko]at hg ⊢
 refine Qmf hT h.toG (r:=rt u) hg h1 q4 ku kr he (by rw[Jp]; exact yu) xl vw (Nat.ble_eq_true_of_le (by have:=QV zr; have:=Nat.mul_le_mul (Nat.le_add_left 1 m) this; omega)) y8 xq q2 fun A c a' w' hv hS=>?_
 refine H β ρ _ _ _ hk (Gl S d [] _) ?_
 have yd:=Rel.fin (β':=β) (ρ':=ρ) (env:=S.env++S.fix) (env':=Yy S.env d++S.fix) (mem':=S.mem++S.fixM) (fun _ _=>trivial) hS h.sz h1 (Xh.refl _) (fun e he ok w cs hc=>hc) (fun e he=>by
  grind [Ld,List.mem_append_left,Qbu,List.mem_append_right]) (x:=.d (.sl u) xs) (c:=[.slice A xs.length c]) rfl ⟨_,rfl,Zr.1 hv⟩
 exact yd
theorem slV(h:Rel X β ρ S.flat a w){x:Operand}{xv:AV}{u:Ty}{ys:List u.De}(hx:S.ev [] x=some xv)(hy:asD S.flat.mem xv (.sl u)=some ys) :
  ∃A m c,a.eval x=.slice A m c∧isV (rSl (rt u)) (okR X β ρ S.flat.mem w) w ys (.slice A m c):=by
 have xh:(Ty.sl u).agg=xv.isAgg:=by
  cases xv with
  | d t' y'=>obtain⟨rfl,_⟩:=Ty.cast_ok (by simpa only[asD]using hy); rfl
  | ag l=>simp[asD]at hy
  | _=>rfl
 have p7:=h.asD (Qd a) hx hy xh
 grind [Qi5,rt]
theorem slR(h:Rel X β ρ S.flat a w){x:Operand}{xv:AV}{u:Ty}{ys:List u.De}(hx:S.ev [] x=some xv)(hy:asR S.flat.mem xv u=some ys) :
  ∃A m c,a.eval x=.slice A m c∧Qyi (rt u) (okR X β ρ S.flat.mem w) w ys A m c:=by
 unfold asR at hy
 split at hy
 ·grind [slV,Q6e]
 ·split at hy
  ·rename_i id nd
   split at hy
   ·rename_i e t zs ho
    obtain⟨he,hz⟩:=Ty.cast_ok hy
    injection he with he
    subst he
    obtain⟨c1,h1,⟨v,rfl,zy⟩,A,m,c,hρ⟩:=h.ev (Qd a) hx
    have hp:=(h.ob ho).1
    have xd:(ml (ρ id) e (rt t) zs).p (okR X β ρ S.flat.mem w) w:=hp
    rw[hρ]at xd
    have vy:zs=ys:=hz.symm
    subst vy
    rcases zy with zy | ⟨wo,A0,zy⟩
    ·exact⟨A,m,c,by rw[h1,←hρ,←zy]; rfl,Jdh xd⟩
    ·refine⟨A0,0,0,by rw[h1,←zy]; rfl,?_⟩
     have hl:K0 (ρ id)=zs.length:=hp.1
     rw[wo]at hl
     have:zs=[]:=List.length_eq_zero_iff.1 hl.symm
     subst this
     exact⟨[],by simp,rfl,QU _,fun _=>rfl,by simp,fun h=>absurd h (by omega),by simp⟩
   ·cases hy
  ·cases hy
theorem Jed(hT:Q6 P Y.T)(hX:X.n=n)(hr:X.res=[])(h:Rel X β ρ S.flat a w){o:Oper}(hw:Region.wanted o (yielded ops a.tmps)=true){d:Nat}(hd:o.dst=some d)(zi:okW n S d=true)(hb:okB S d=true)
  {t:TypeId} {s x:Operand} (ko:o.op=.call ⟨.builtin .append,⟨[s,x]⟩,⟨[t,t]⟩⟩) {te ee:TE} {e:TypeId} (ku:Qh Y.T t=some te) (kr:te.d=.slice e) (he:Qh Y.T e=some ee) {u:Ty} (kj:Nat.beq ee.size u.size=true)
  (zr:Nat.ble 1 ee.size=true) (yi:Nat.ble 1 ee.bytes=true) (y8:Nat.beq (Qu ee.z).length ee.size=true) {xv:AV} (hs:S.ev [] s=some .ns) (hx:S.ev [] x=some xv) {ys zs:List u.De} (hy:asR S.flat.mem xv u=some ys)
  (zn:app ee.bytes [] ys=some zs) (hk:k ((S.born d (.row e u zs)).put d [] (.s d))=some r) (H:KOk P ops Q rest X S β ρ k r):wpList P ops Q (o::rest) a w:=by
 obtain⟨f1,f2,f3⟩:=H1 hb
 obtain⟨h1,h2⟩:=Vb zi hX hr
 have hg:=Lk h hw
 obtain⟨A2,m2,c2,uq,vl⟩:=slR h hx hy
 obtain⟨c1,zh,yo⟩:=h.ev (Qd a) hs
 have lj:c1=_:=yo
 subst lj
 have zx:a.eval s=.slice none 0 0:=zh
 have ur:Sb (fun _=>0) X (Qht X.n a) (S.flat.env.map (enD β ρ a)) [] (ml (.slice none 0 0) e (rt u) []::Qi β ρ S.flat.mem) a w:=Sb.addNilM h.toG e (rt u)
 have kn:∀b o,okR X β ρ S.flat.mem w b o→Jg X.ok X.w.heap.size (fun _=>0) [] (ml (.slice none 0 0) e (rt u) []::Qi β ρ S.flat.mem) w b o:=by
  rintro b o ⟨o1,o2,o3,o4⟩
  refine⟨o1,o2,o3,fun t ht hc=>?_⟩
  rcases QJ.1 ht with rfl | ht
  ·cases hc
  ·exact o4 t ht hc
 rw[Bt o,hd,ko]at hg ⊢
 refine Qg7 hT ur [] (Qi β ρ S.flat.mem) (r:=rt u) hg h1 ku kr he (by rw[Jp]; exact Nat.eq_of_beq_eq_true kj) y8 zr yi rfl (by rw[gvE h (Qd a) hs,zx]) (by rw[gvE h (Qd a) hx,uq]) (vl.weak kn) zn fun A' c' a' w' hS=>?_
 refine H β (upd ρ d (.slice A' zs.length c')) _ _ _ hk (U0 f3 (Jz d β ρ _) _ _ _) ?_
 exact Zl (o:=.row e u zs) hX hr h.sz zi f1 f2 f3 hS (by grind [Q0,Je,Gi.refl]) ⟨_,_,_,rfl⟩
theorem Kv{l m:List (Nat×Ob)}{id:Nat}{o:Ob}(h:Qe l id=some o):Jx (l++m) id=Jx l id++m:=by
 induction l with
 | nil=>simp[Qe]at h
 | cons q l ih =>
  simp only[Qe]at h
  simp only[Jx,QA]
  grind
theorem Sq{T:Tab}{G:GL}{D:List DF}{H:HL}{O:List TL}(hT:Q6 P T)(h:Sb β X G D H O a w){t:TypeId}{s x:Operand}{d:Nat}{ps:String}{af:Array Edge}{ty:TypeId}{gd:Option (Nat×Bool)}
  (hg:Bk ops G ⟨some d,.call ⟨.builtin .append,⟨[s,x]⟩,⟨[t,t]⟩⟩,ty,ps,af,gd⟩=some true) (hlt:okD X d=true)
  {τ:Type} {r:RT τ} {ys zs:List τ} {A A2:Option Addr} {m2 c2:Nat} {e:TypeId} {te ee:TE} (ht:Qh T t=some te) (kr:te.d=.slice e) (he:Qh T e=some ee) (hs:ee.size=r.size)
  (hz:Nat.beq (Qu ee.z).length ee.size=true) (kj:Nat.ble 1 ee.size=true) (yi:Nat.ble 1 ee.bytes=true)
  (wy:gv G s=some (.v (.slice A 0 0))) (xx:gv G x=some (.v (.slice A2 m2 c2)))
  (hDy:Qyi r (Jg X.ok X.w.heap.size β H O w) w ys A2 m2 c2) (zn:app ee.bytes ([]:List τ) ys=some zs)
  (sx:zs=[]→∀a',Sb β X (Se G d (.v (.slice A 0 0))) D H O a' w→wpList P ops Q rest a' w)
  (ng:∀A' c' a' w',Sb β X (Se G d (.v (.slice A' zs.length c'))) D H (ml (.slice A' zs.length c') e r zs::O) a' w'→wpList P ops Q rest a' w') :
  wpList P ops Q (⟨some d,.call ⟨.builtin .append,⟨[s,x]⟩,⟨[t,t]⟩⟩,ty,ps,af,gd⟩::rest) a w:=by
 obtain⟨zd,y9⟩:=Qi6 zn
 simp only[QY,QR,QK]at zd y9
 subst y9
 have h0:=Sb.addNilM h e r
 have hokn:∀b o,Jg X.ok X.w.heap.size β H O w b o→Jg X.ok X.w.heap.size β H (ml (.slice none 0 0) e r []::O) w b o:=by
  rintro b o ⟨o1,o2,o3,o4⟩
  refine⟨o1,o2,o3,fun t ht hc=>?_⟩
  rcases QJ.1 ht with rfl | ht
  ·cases hc
  ·exact o4 t ht hc
 obtain⟨csy,vz,va,ik,hA2,sc,mb,mc⟩:=hDy.weak hokn
 have y8:=Nat.eq_of_beq_eq_true hz
 have ua:0<ee.size:=QV kj
 have ub:0<ee.bytes:=QV yi
 have hu:P.underlying t=some (.slice e):=by rw[(Jq hT ht).2,kr]
 obtain⟨i,hi,vy,b9,uw⟩:=Wp hT he
 have hm2b:zs.length≤140737488355328:=Nat.le_trans (XK _ ub) zd
 have hm:(Array.mk [s,x]).map a.eval=⟨[.slice A 0 0,.slice A2 m2 c2]⟩:=by simp[h.ev wy,h.ev xx,D5]
 have vm:∀v' w1,(Builtin.append_ ⟨[t,t]⟩ ty ⟨[.slice A 0 0,.slice A2 m2 c2]⟩).run P w=.ok v' w1→(execOp a.eval ⟨some d,.call ⟨.builtin .append,⟨[s,x]⟩,⟨[t,t]⟩⟩,ty,ps,af,gd⟩).run P w=.ok (.value v') w1:=by
  simp_all [execOp,resolve,invoke,builtin]
 rcases Nat.eq_zero_or_pos m2 with nh | nh
 ·subst nh
  have hx:zs=[]:=QE va
  have ka:(Builtin.append_ ⟨[t,t]⟩ ty ⟨[.slice A 0 0,.slice A2 0 c2]⟩).run P w=.ok (.slice A 0 0) w:=by
   cases A<;>cases A2<;>simp[Builtin.append_,run_underlying hu,Go.sizeOf,typeInfo,hi,Builtin.lenOf,Builtin.firstCells,loadCells,loadCellsFrom,storeCells]
  refine Jr (Ka h hg) (Yr (vm _ _ ka) ?_)
  exact sx hx _ (h.put hlt (.v _))
 ·obtain⟨b,o,rfl,hc⟩:=mb nh
  have yw:∀j u,csy[j]?=some u→w.cell? ((⟨b,o,none⟩:Addr).add j)=some u:=fun j u hu=>by rw[Hg]; exact hc j u hu
  have vv:(Builtin.append_ ⟨[t,t]⟩ ty ⟨[.slice A 0 0,.slice (some ⟨b,o,none⟩) m2 c2]⟩).run P w=(Builtin.append_ ⟨[t,t]⟩ ty ⟨[.slice none 0 0,.slice (some ⟨b,o,none⟩) m2 c2]⟩).run P w:=by
   have hn:=run_append_nil (P:=P) w t ty e i ee.z hu hi vy (⟨b,o,none⟩) m2 c2 csy (by rw[b9,hs]; exact vz) yw nh (by omega) (by rw[uw,←va]; omega)
   cases A with
   | none=>rfl
   | some ad =>
    have:=run_append_grow (P:=P) w t ty e i ee.z hu hi vy ad 0 0 [] (by simp) (by simp) ⟨b,o,none⟩ m2 c2 csy (by rw[b9,hs]; exact vz) yw (by omega) (by omega) (growslice_fits (by omega) (by rw[uw,QK,←va]; exact zd))
    grind
  obtain⟨v',w1,ka,zl,kg,hblk⟩:=Qfk (P:=P) (w:=w) (ty:=ty) hT ht kr he y8 ua ub (World.ownsRowS_nil w 0 e ee.size) (QM _) (k:=m2) (c:=c2) (A:=some ⟨b,o,none⟩) (news:=csy) (by rw[hs]; exact vz) hA2 (fun ad had=>by grind) sc (by rw[←va,QK]; exact zd)
  refine Jr (Ka h hg) (Yr (vm _ _ (vv.trans ka)) ?_)
  have yj:∃A' c',v'=.slice A' (0+m2) c':=by
   rcases zl.2 with⟨rfl,h0⟩ | ⟨g,cap,cur,fz,rfl,_⟩
   ·grind
   grind
  obtain⟨A',c',rfl⟩:=yj
  rw[QK]at zl
  rw[QK]at hblk
  have hS:Sb β X G D H (ml (.slice A' m2 c') e r zs::O) a w1:=by
   refine h0.upd (O1:=[]) rfl kg.os kg.tape kg.output kg.size (fun b hb hn=>kg.block b hb fun e=>hn e.symm) (fun b o hb=>hb) (fun g hg=>?_) fun kq kn=>?_
   ·rcases hblk with xb | ⟨xb,_⟩
    ·exact .inl (by have hg:(Value.slice A' m2 c').ownBlock=some g:=hg; rw[xb]at hg; exact hg)
    ·have hg:(Value.slice A' m2 c').ownBlock=some g:=hg
     rw[xb]at hg; grind
   ·refine⟨va.symm,csy,by rw[←hs]; exact zl,Xp (Fd ?_ kq) kn⟩
    grind [Qg6]
  have:=ng A' c' (a.put (some d) (.slice A' m2 c')) w1
  rw[va]at this
  rw[QK]
  exact this (hS.put hlt (.v _))
theorem Qpk{M:List (Nat×Ob)}(hX:X.n=n)(hr:X.res=[])(kj:a.tmps.size=X.n){d:Nat}(zi:okW n S d=true)(hF:J6 d M=true)(hI:Qhl d S.fix=true)(hp:Yd S.prot d=false){A:Option Addr}{e:TypeId}{u:Ty}
  (hS:Sb (fun _=>0) X (Se (Qht X.n a) d (.v (.slice A 0 0))) ((S.env++S.fix).map (enD β ρ a)) [] (Qi β ρ M) a' w') :
  Rel X β (upd ρ d (.slice none 0 0)) ⟨⟨d,[],.s d⟩::(Yy (Vq d S.env) d++S.fix),(d,.row e u [])::M⟩ a' w':=by
 obtain⟨h1,h2⟩:=Vb zi hX hr
 have ha:=Jz d β ρ (.slice none 0 0)
 refine Rel.fin (β':=β) (ρ':=upd ρ d (.slice none 0 0)) (mem':=(d,.row e u [])::M) (fun _ _=>trivial) (Sb.addNilM hS e (rt u)) kj h1 (.cons (by grind [Q0,Je,Gi.refl]) (Sp ha hF)) (fun e he ok w cs hc=>?_) (fun e he=>?_) (x:=.s d) (c:=[.slice A 0 0]) rfl ?_
 ·exact Gj ha (Ll hI h2 e he).2.1 hc
 ·obtain⟨q1,_,q3,q4⟩:=Ll hI h2 e he
  exact⟨q1,q3,q4⟩
 ·refine⟨⟨_,rfl,.inr ⟨by rw[Je],A,rfl⟩⟩,?_⟩
  rw[Je]; grind
theorem Jee(hT:Q6 P Y.T)(hX:X.n=n)(hr:X.res=[])(h:Rel X β ρ S.flat a w){o:Oper}(hw:Region.wanted o (yielded ops a.tmps)=true){d:Nat}(hd:o.dst=some d)(zi:okW n S d=true){id:Nat}
  (hb:okB ⟨S.env,S.fix,Jx S.mem id,S.fixM,S.prot⟩ d=true)
  {t:TypeId} {s x:Operand} (ko:o.op=.call ⟨.builtin .append,⟨[s,x]⟩,⟨[t,t]⟩⟩) {te ee:TE} {e:TypeId} (ku:Qh Y.T t=some te) (kr:te.d=.slice e) (he:Qh Y.T e=some ee) {u:Ty} (kj:Nat.beq ee.size u.size=true)
  (zr:Nat.ble 1 ee.size=true) (yi:Nat.ble 1 ee.bytes=true) (y8:Nat.beq (Qu ee.z).length ee.size=true) {xv:AV} (hs:S.ev [] s=some (.s id)) (hx:S.ev [] x=some xv) {xs ys zs:List u.De} (hm:Qe S.mem id=some (.row e u xs)) (hy:asR S.flat.mem xv u=some ys)
  (zn:app ee.bytes xs ys=some zs) (hk:k (({ S with mem:=Jx S.mem id }.born d (.row e u zs)).put d [] (.s d))=some r) (H:KOk P ops Q rest X S β ρ k r):wpList P ops Q (o::rest) a w:=by
 obtain⟨f1,f2,f3⟩:=H1 hb
 obtain⟨h1,h2⟩:=Vb zi hX hr
 have hg:=Lk h hw
 obtain⟨A2,m2,c2,uq,vl⟩:=slR h hx hy
 obtain⟨c1,zh,⟨v0,yo,zy⟩,A,m,c,hρ⟩:=h.ev (Qd a) hs
 subst yo
 have zz:Qe S.flat.mem id=some (.row e u xs):=Q4 hm
 have e4':Jx S.mem id++S.fixM=Jx S.flat.mem id:=(Kv hm).symm
 rcases zy with zy | ⟨wo,A0,zy⟩
 case inr =>
  have zx:a.eval s=.slice A0 0 0:=by rw[zh,←zy]; rfl
  have xn:xs=[]:=by
   have:=(h.ob zz).1.1
   rw[wo]at this
   exact List.length_eq_zero_iff.1 this.symm
  subst xn
  have hR:=h.dropM zz
  have xz:∀b o,okR X β ρ S.flat.mem w b o→Jg X.ok X.w.heap.size (fun _=>0) [] (Qi β ρ (Jx S.flat.mem id)) w b o:=by
   rintro b o ⟨o1,o2,o3,o4⟩
   refine⟨o1,o2,o3,fun t ht hc=>?_⟩
   obtain⟨l1,l2,e1,_,e3⟩:=Jv zz
   grind
  rw[Bt o,hd,ko]at hg ⊢
  refine Sq (a:=a) hT hR.toG (r:=rt u) hg h1 ku kr he (by rw[Jp]; exact Nat.eq_of_beq_eq_true kj) y8 zr yi (by rw[gvE h (Qd a) hs,zx]) (by rw[gvE h (Qd a) hx,uq]) (vl.weak xz) zn (fun hz a' hS=>?_) fun A' c' a' w' hS=>?_
  ·subst hz
   rw[←e4']at hS
   exact H β (upd ρ d (.slice none 0 0)) _ _ _ hk ⟨rfl,rfl,rfl,Gk f3 (Jz d β ρ _)⟩ (Qpk (S:={ S with mem:=Jx S.mem id }) hX hr h.sz zi f1 f2 f3 hS)
  ·rw[←e4']at hS
   refine H β (upd ρ d (.slice A' zs.length c')) _ _ _ hk ⟨rfl,rfl,rfl,Gk f3 (Jz d β ρ _)⟩ ?_
   exact Zl (S:={ S with mem:=Jx S.mem id }) (o:=.row e u zs) hX hr h.sz zi f1 f2 f3 hS (by grind [Q0,Je,Gi.refl]) ⟨_,_,_,rfl⟩
 have zx:a.eval s=.slice A m c:=by rw[zh,←hρ,←zy]; rfl
 obtain⟨l1,l2,e1,_,e3⟩:=Jv zz
 have hO:Qi β ρ S.flat.mem=Qi β ρ l1++ml (.slice A m c) e (rt u) xs::Qi β ρ l2:=by rw[e1]; simp[Qi,Q0,hρ]
 rw[Bt o,hd,ko]at hg ⊢
 refine Qg7 hT h.toG (Qi β ρ l1) (Qi β ρ l2) (r:=rt u) hg h1 ku kr he (by rw[Jp]; exact Nat.eq_of_beq_eq_true kj) y8 zr yi hO (by rw[gvE h (Qd a) hs,zx]) (by rw[gvE h (Qd a) hx,uq]) vl zn fun A' c' a' w' hS=>?_
 refine H β (upd ρ d (.slice A' zs.length c')) _ _ _ hk ⟨rfl,rfl,rfl,Gk f3 (Jz d β ρ _)⟩ ?_
 have e4:Jx S.mem id++S.fixM=l1++l2:=by rw[←Kv hm]; exact e3
 have hS':=hS.perm (O':=ml (.slice A' zs.length c') e (rt u) zs::Qi β ρ (Jx S.mem id++S.fixM)) (by rw[e4]; simp[Qi,QB,List.perm_middle])
 exact Zl (S:={ S with mem:=Jx S.mem id }) (o:=.row e u zs) hX hr h.sz zi f1 f2 f3 hS' (by grind [Q0,Je,Gi.refl]) ⟨_,_,_,rfl⟩
theorem Q96(hT:Q6 P Y.T)(hX:X.n=n)(hr:X.res=[])(h:Rel X β ρ S.flat a w){o:Oper}(hw:Region.wanted o (yielded ops a.tmps)=true){d:Nat}(hd:o.dst=some d)(zi:okW n S d=true){id:Nat}
  (hb:okB ⟨S.env,S.fix,Jx S.mem id,S.fixM,S.prot⟩ d=true)
  {t:TypeId} {s x:Operand} (ko:o.op=.call ⟨.builtin .append,⟨[s,x]⟩,⟨[t,t]⟩⟩) {te ee:TE} {e:TypeId} (ku:Qh Y.T t=some te) (kr:te.d=.slice e) (he:Qh Y.T e=some ee) {u:Ty} (kj:Nat.beq ee.size u.size=true)
  (zr:Nat.ble 1 ee.size=true) (yi:Nat.ble 1 ee.bytes=true) (y8:Nat.beq (Qu ee.z).length ee.size=true) {xv:AV} (hs:S.ev [] s=some (.s id)) (hx:S.ev [] x=some xv) {xs ys zs:List u.De} (hm:Qe S.mem id=some (.tail e u xs)) (hy:asD S.flat.mem xv (.sl u)=some ys)
  (zn:app ee.bytes xs ys=some zs) (hk:k (({ S with mem:=Jx S.mem id }.born d (.tail e u zs)).put d [] (.s d))=some r) (H:KOk P ops Q rest X S β ρ k r):wpList P ops Q (o::rest) a w:=by
 obtain⟨f1,f2,f3⟩:=H1 hb
 obtain⟨h1,h2⟩:=Vb zi hX hr
 have hg:=Lk h hw
 obtain⟨A2,m2,c2,uq,vl⟩:=slV h hx hy
 obtain⟨c1,zh,⟨v0,yo,zy⟩,A,m,c,hρ⟩:=h.ev (Qd a) hs
 subst yo
 have zz:Qe S.flat.mem id=some (.tail e u xs):=Q4 hm
 have e4':Jx S.mem id++S.fixM=Jx S.flat.mem id:=(Kv hm).symm
 rcases zy with zy | ⟨wo,A0,zy⟩
 case inr =>
  have zx:a.eval s=.slice A0 0 0:=by rw[zh,←zy]; rfl
  have xn:xs=[]:=by
   have:=(h.ob zz).1.1
   rw[wo]at this
   grind [Qi5,List.length_eq_zero_iff]
  subst xn
  have hR:=h.dropM zz
  have xz:∀b o,okR X β ρ S.flat.mem w b o→Jg X.ok X.w.heap.size (fun _=>0) [] (Qi β ρ (Jx S.flat.mem id)) w b o:=by
   rintro b o ⟨o1,o2,o3,o4⟩
   refine⟨o1,o2,o3,fun t ht hc=>?_⟩
   obtain⟨l1,l2,e1,_,e3⟩:=Jv zz
   grind
  have z8:∀{ρ1:Nat→Value} {a1:Act} {w1:World},Rel X β ρ1 ⟨⟨d,[],.s d⟩::(Yy (Vq d S.env) d++S.fix),(d,.row e u zs)::(Jx S.mem id++S.fixM)⟩ a1 w1→Rel X β ρ1 ⟨⟨d,[],.s d⟩::(Yy (Vq d S.env) d++S.fix),(d,.tail e u zs)::(Jx S.mem id++S.fixM)⟩ a1 w1 :=
   fun hq=>Rel.freeze1 (l1:=[]) hq (by rw[←Nat.eq_of_beq_eq_true kj]; exact zr)
  rw[Bt o,hd,ko]at hg ⊢
  refine Sq (a:=a) hT hR.toG (r:=rt u) hg h1 ku kr he (by rw[Jp]; exact Nat.eq_of_beq_eq_true kj) y8 zr yi (by rw[gvE h (Qd a) hs,zx]) (by rw[gvE h (Qd a) hx,uq]) (Q6e (vl.weak xz)) zn (fun hz a' hS=>?_) fun A' c' a' w' hS=>?_
  ·subst hz
   rw[←e4']at hS
   exact H β (upd ρ d (.slice none 0 0)) _ _ _ hk ⟨rfl,rfl,rfl,Gk f3 (Jz d β ρ _)⟩ (z8 (Qpk (S:={ S with mem:=Jx S.mem id }) hX hr h.sz zi f1 f2 f3 hS))
  ·rw[←e4']at hS
   refine H β (upd ρ d (.slice A' zs.length c')) _ _ _ hk ⟨rfl,rfl,rfl,Gk f3 (Jz d β ρ _)⟩ (z8 ?_)
   exact Zl (S:={ S with mem:=Jx S.mem id }) (o:=.row e u zs) hX hr h.sz zi f1 f2 f3 hS (by grind [Q0,Je,Gi.refl]) ⟨_,_,_,rfl⟩
 have zx:a.eval s=.slice A m c:=by rw[zh,←hρ,←zy]; rfl
 have yu:ee.size=(rt u).size:=by rw[Jp]; exact Nat.eq_of_beq_eq_true kj
 obtain⟨l1,l2,e1,_,e3⟩:=Jv zz
 have hO:Qi β ρ S.flat.mem=Qi β ρ l1++Qbi (.slice A m c) e (rt u) xs::Qi β ρ l2:=by rw[e1]; simp[Qi,Q0,hρ]
 have hG:=h.toG
 rw[hO]at hG
 have rh:isV (rSl (rt u)) (Jg X.ok X.w.heap.size (fun _=>0) [] (Qi β ρ S.flat.mem) w) w xs (.slice A m c):=by
  have:=(h.ob zz).1.1
  rw[hρ]at this
  exact this
 have vn:Xh (Qi β ρ l1++Qbi (.slice A m c) e (rt u) xs::Qi β ρ l2) (Qi β ρ l1++tl (.slice A m c) e ee.size::Qi β ρ l2) :=
  (Xh.refl _).append (.cons ⟨fun _=>Iff.rfl,fun _ _=>by rw[yu]; exact Iff.rfl,fun _ _ hp=>by rw[yu]; exact hp.2⟩ (Xh.refl _))
 have hG2:=Sb.simO hG vn
 have kn:∀b o,Jg X.ok X.w.heap.size (fun _=>0) [] (Qi β ρ S.flat.mem) w b o→Jg X.ok X.w.heap.size (fun _=>0) [] (Qi β ρ l1++tl (.slice A m c) e ee.size::Qi β ρ l2) w b o:=by rw[hO]; exact vn.ok
 have hG3:=hG2.addD (d:=DF.v (rSl (rt u)) xs (.slice A m c)) (rh.weak kn)
 rw[Bt o,hd,ko]at hg ⊢
 refine Qyj hT hG3 0 0 (Qi β ρ l1) (Qi β ρ l2) (r:=rt u) hg h1 ku kr he yu y8 zr yi rfl (by rw[gvE h (Qd a) hs,zx]) (by rw[gvE h (Qd a) hx,uq]) rfl (vl.weak kn) zn fun A' c' a' w' qy hS=>?_
 refine H β (upd ρ d (.slice A' zs.length c')) _ _ _ hk ⟨rfl,rfl,rfl,Gk f3 (Jz d β ρ _)⟩ ?_
 have e4:Jx S.mem id++S.fixM=l1++l2:=by rw[←Kv hm]; exact e3
 have hS1:Sb (fun _=>0) X (Se (Qht X.n a) d (.v (.slice A' zs.length c'))) (S.flat.env.map (enD β ρ a)) [] (Qi β ρ l1++tl (.slice A' zs.length c') e ee.size::Qi β ρ l2) a' w':={ hS with dat:=hS.dat.2 }
 have xt:=QF.1 hS1.dOO
 have hS2:Sb (fun _=>0) X (Se (Qht X.n a) d (.v (.slice A' zs.length c'))) (S.flat.env.map (enD β ρ a)) [] (Qi β ρ l1++Qbi (.slice A' zs.length c') e (rt u) zs::Qi β ρ l2) a' w':=by
  refine Sb.remake hS1 (fun t' k9=>?_) ?_
  ·rcases QX.1 k9 with k9 | k9
   ·exact .inl ⟨t',by simp[k9],fun _ hg=>hg,fun _ _ hc=>hc,(hS1.own t' (by simp[k9])).1⟩
   ·rcases QJ.1 k9 with rfl | k9
    ·refine .inl ⟨tl (.slice A' zs.length c') e ee.size,by simp,fun _ hg=>hg,fun _ _ hc=>by rw[yu]; exact hc,qy,?_⟩
     have:=(hS1.own (tl (.slice A' zs.length c') e ee.size) (by simp)).1
     rw[yu]at this
     exact this
    ·exact .inl ⟨t',by simp[k9],fun _ hg=>hg,fun _ _ hc=>hc,(hS1.own t' (by simp[k9])).1⟩
  ·have sg:=List.pairwise_cons.1 xt.2.1
   refine QF.2 ⟨xt.1,List.pairwise_cons.2 ⟨fun u hu=>sg.1 u hu,sg.2⟩,fun t ht t' k9=>?_⟩
   rcases QJ.1 k9 with rfl | k9
   ·exact xt.2.2 t ht (tl (.slice A' zs.length c') e ee.size) (.head _)
   grind
 have hS':=hS2.perm (O':=Qbi (.slice A' zs.length c') e (rt u) zs::Qi β ρ (Jx S.mem id++S.fixM)) (by rw[e4]; simp[Qi,QB,List.perm_middle])
 exact Zl (S:={ S with mem:=Jx S.mem id }) (o:=.tail e u zs) hX hr h.sz zi f1 f2 f3 hS' (by grind [Q0,Je,Gi.refl]) ⟨_,_,_,rfl⟩
theorem Jnl(hT:Q6 P Y.T)(hX:X.n=n)(hr:X.res=[])(h:Rel X β ρ S.flat a w){o:Oper}(hw:Region.wanted o (yielded ops a.tmps)=true){d:Nat}(hd:o.dst=some d)(zi:okW n S d=true)(hb:okB S d=true)
  {t:TypeId} {s x:Operand} (ko:o.op=.call ⟨.builtin .append,⟨[s,x]⟩,⟨[t,t]⟩⟩) {te ee:TE} {e:TypeId} (ku:Qh Y.T t=some te) (kr:te.d=.slice e) (he:Qh Y.T e=some ee) {u:Ty} (kj:Nat.beq ee.size u.size=true)
  (zr:Nat.ble 1 ee.size=true) (yi:Nat.ble 1 ee.bytes=true) (y8:Nat.beq (Qu ee.z).length ee.size=true) {xv:AV} (hs:S.ev [] s=some .z) (hx:S.ev [] x=some xv) {ys zs:List u.De} (hy:asR S.flat.mem xv u=some ys)
  (zn:app ee.bytes [] ys=some zs) (hk:k ((S.born d (.row e u zs)).put d [] (.s d))=some r) (H:KOk P ops Q rest X S β ρ k r):wpList P ops Q (o::rest) a w:=by
 obtain⟨f1,f2,f3⟩:=H1 hb
 obtain⟨h1,h2⟩:=Vb zi hX hr
 have hg:=Lk h hw
 obtain⟨A2,m2,c2,uq,vl⟩:=slR h hx hy
 obtain⟨c1,zh,A,yo⟩:=h.ev (Qd a) hs
 subst yo
 have zx:a.eval s=.slice A 0 0:=zh
 rw[Bt o,hd,ko]at hg ⊢
 refine Sq hT h.toG (r:=rt u) hg h1 ku kr he (by rw[Jp]; exact Nat.eq_of_beq_eq_true kj) y8 zr yi (by rw[gvE h (Qd a) hs,zx]) (by rw[gvE h (Qd a) hx,uq]) vl zn (fun hz a' hS=>?_) fun A' c' a' w' hS=>?_
 ·subst hz
  exact H β (upd ρ d (.slice none 0 0)) _ _ _ hk (U0 f3 (Jz d β ρ _) _ _ _) (Qpk hX hr h.sz zi f1 f2 f3 hS)
 ·refine H β (upd ρ d (.slice A' zs.length c')) _ _ _ hk (U0 f3 (Jz d β ρ _) _ _ _) ?_
  exact Zl (o:=.row e u zs) hX hr h.sz zi f1 f2 f3 hS (by grind [Q0,Je,Gi.refl]) ⟨_,_,_,rfl⟩
end
end Gx

/- Strings as bytes, strings that are appended to bytes. -/
namespace Gx
open Go Go.RowKit Go.Lib Gd
set_option linter.unusedVariables false
set_option linter.unusedSimpArgs false
set_option linter.constructorNameAsVariable false
theorem Sr(l:Str):strCells ⟨⟨l⟩⟩=(Zu l).map (Value.int .u8):=by simp[strCells,Zu]
theorem Qdy{k:IntKind}{ok:Ok}{w:World}:∀xs:List Int,Ks (Qa0 k) ok w xs (xs.map (Value.int k))
 | []=>rfl
 | x::xs=>⟨[.int k x],xs.map (Value.int k),rfl,rfl,Qdy xs⟩
theorem Ji5{v:Value}(h:Jnf v=true):v=.int .u8 0:=by
 grind [Jnf]
theorem Ji6{d:TypeDesc}(h:Jng d=true):d=.int .u8:=by
 grind [Jng]
theorem Q97{d:TypeDesc}(h:Q35 d=true):d=.string:=by
 grind [Q35]
theorem Qzi(w:World)(e:TypeId)(s:ByteArray):Below w.heap.size w (bytesWorld w e s) :=
 ⟨rfl,rfl,rfl,by rw[bytesWorld_size]; omega,fun b hb=>bytesWorld_at_old w e s b hb⟩
section
variable {P:Program} {T:Tab} {β:Nat→Nat} {X:Cx} {G:GL} {D:List DF} {H:HL} {O:List TL} {a:Act} {w w':World}
variable {ops:Array Oper} {Q:Exit→Act→World→Prop} {rest:List Oper}
theorem Qpl(hT:Q6 P T)(h:Sb β X G D H O a w)(O1 O2:List TL){t t':TypeId}{s x:Operand}{d:Nat}{ps:String}{af:Array Edge}{ty:TypeId}{gd:Option (Nat×Bool)}
  (hg:Bk ops G ⟨some d,.call ⟨.builtin .append,⟨[s,x]⟩,⟨[t,t']⟩⟩,ty,ps,af,gd⟩=some true) (hlt:okD X d=true)
  {xs zs:List Int} {l:Str} {A:Option Addr} {m c:Nat} {e:TypeId} {te te' ee:TE} (ht:Qh T t=some te) (kr:te.d=.slice e) (k9:Qh T t'=some te') (vo:te'.d=.string) (he:Qh T e=some ee)
  (hz:ee.z=.int .u8 0) (kj:ee.size=1) (yi:ee.bytes=1)
  (hO:O=O1++ml (.slice A m c) e (Qa0 .u8) xs::O2) (wy:gv G s=some (.v (.slice A m c))) (xx:gv G x=some (.v (Yk l))) (zn:app 1 xs (Zu l)=some zs)
  (hk:∀A' c' a' w',Sb β X (Se G d (.v (.slice A' zs.length c'))) D H (O1++ml (.slice A' zs.length c') e (Qa0 .u8) zs::O2) a' w'→wpList P ops Q rest a' w') :
  wpList P ops Q (⟨some d,.call ⟨.builtin .append,⟨[s,x]⟩,⟨[t,t']⟩⟩,ty,ps,af,gd⟩::rest) a w:=by
 obtain⟨zd,rfl⟩:=Qi6 zn
 have ke:ml (.slice A m c) e (Qa0 .u8) xs∈O:=by rw[hO]; simp
 obtain⟨⟨hl,xs0,kb,hr⟩,zg⟩:=h.own _ ke
 obtain⟨i,hi,vy,tj,yq⟩:=Wp hT he
 simp only[K0]at kb hl
 have rp:(Zu l).length=l.length:=by simp[Zu]
 have hu:=(Jq hT ht).2; rw[kr]at hu
 have ud:=(Jq hT k9).2; rw[vo]at ud
 have wj:(⟨⟨l⟩⟩:ByteArray).size=l.length:=rfl
 obtain⟨v',w1,ka,zl,kg,hblk⟩:=Qbh (P:=P) (w:=w) (ty:=ty) hu ud hi (by rw[vy,hz]) (by rw[tj,kj]) (by rw[yq,yi]) (base:=0) (v:=.slice A m c) (n:=m) (xs:=xs0) kb ⟨⟨l⟩⟩ (by rw[wj]; omega) (QM _)
 rw[wj]at zl
 have yc:(execOp a.eval ⟨some d,.call ⟨.builtin .append,⟨[s,x]⟩,⟨[t,t']⟩⟩,ty,ps,af,gd⟩).run P w=.ok (.value v') w1:=by
  unfold execOp
  have hm:(Array.mk [s,x]).map a.eval=⟨[.slice A m c,Yk l]⟩:=by simp[h.ev wy,h.ev xx,D5]
  simp_all [resolve,invoke,builtin,Yk]
 have yj:∃A' c',v'=.slice A' (m+l.length) c':=by
  rcases zl.2 with⟨rfl,h0⟩ | ⟨g,cap,cur,fz,rfl,_⟩
  ·grind
  grind
 obtain⟨A',c',rfl⟩:=yj
 have hlen:m+l.length=(xs++Zu l).length:=by rw[List.length_append,hl,rp]
 refine Jr (Ka h hg) (Yr yc ?_)
 have hS:Sb β X G D H (O1++ml (.slice A' (m+l.length) c') e (Qa0 .u8) (xs++Zu l)::O2) a w1:=by
  refine h.upd hO kg.os kg.tape kg.output kg.size (fun b hb hn=>kg.block b hb fun e=>hn e.symm) (fun b o hb=>hb) (fun g hg=>?_) fun kq kn=>?_
  ·rcases hblk with xb | ⟨xb,_⟩
   ·exact .inl (by have hg:(Value.slice A' (m+l.length) c').ownBlock=some g:=hg; rw[xb]at hg; exact hg)
   ·have hg:(Value.slice A' (m+l.length) c').ownBlock=some g:=hg
    rw[xb]at hg; grind
  ·refine⟨hlen,xs0++strCells ⟨⟨l⟩⟩,zl,Nh (Xp (Fd hr kq) kn) ?_⟩
   rw[Sr]
   exact Qdy _
 have:=hk A' c' (a.put (some d) (.slice A' (m+l.length) c')) w1
 rw[←hlen]at this
 exact this (hS.put hlt (.v _))
theorem Q4d(hT:Q6 P T)(h:Sb β X G D H O a w){t t':TypeId}{s x:Operand}{d:Nat}{ps:String}{af:Array Edge}{ty:TypeId}{gd:Option (Nat×Bool)}
  (hg:Bk ops G ⟨some d,.call ⟨.builtin .append,⟨[s,x]⟩,⟨[t,t']⟩⟩,ty,ps,af,gd⟩=some true) (hlt:okD X d=true)
  {zs:List Int} {l:Str} {A:Option Addr} {e:TypeId} {te te' ee:TE} (ht:Qh T t=some te) (kr:te.d=.slice e) (k9:Qh T t'=some te') (vo:te'.d=.string) (he:Qh T e=some ee)
  (hz:ee.z=.int .u8 0) (kj:ee.size=1) (yi:ee.bytes=1)
  (wy:gv G s=some (.v (.slice A 0 0))) (xx:gv G x=some (.v (Yk l))) (zn:app 1 [] (Zu l)=some zs)
  (sx:zs=[]→∀a',Sb β X (Se G d (.v (.slice A 0 0))) D H O a' w→wpList P ops Q rest a' w)
  (ng:∀A' c' a' w',Sb β X (Se G d (.v (.slice A' zs.length c'))) D H (ml (.slice A' zs.length c') e (Qa0 .u8) zs::O) a' w'→wpList P ops Q rest a' w') :
  wpList P ops Q (⟨some d,.call ⟨.builtin .append,⟨[s,x]⟩,⟨[t,t']⟩⟩,ty,ps,af,gd⟩::rest) a w:=by
 obtain⟨zd,y9⟩:=Qi6 zn
 simp only[QY,QR,QK]at zd y9
 subst y9
 obtain⟨i,hi,vy,tj,yq⟩:=Wp hT he
 have rp:(Zu l).length=l.length:=by simp[Zu]
 have hu:=(Jq hT ht).2; rw[kr]at hu
 have ud:=(Jq hT k9).2; rw[vo]at ud
 have wj:(⟨⟨l⟩⟩:ByteArray).size=l.length:=rfl
 have hm:(Array.mk [s,x]).map a.eval=⟨[.slice A 0 0,Yk l]⟩:=by simp[h.ev wy,h.ev xx,D5]
 have vm:∀v' w1,(Builtin.append_ #[t,t'] ty #[.slice A 0 0,.string ⟨⟨l⟩⟩]).run P w=.ok v' w1→(execOp a.eval ⟨some d,.call ⟨.builtin .append,⟨[s,x]⟩,⟨[t,t']⟩⟩,ty,ps,af,gd⟩).run P w=.ok (.value v') w1:=by
  simp_all [execOp,resolve,invoke,builtin,Yk]
 by_cases wz:l.length=0
 ·have hl:l=[]:=QE wz
  subst hl
  have ka:(Builtin.append_ #[t,t'] ty #[.slice A 0 0,.string ⟨⟨[]⟩⟩]).run P w=.ok (.slice A 0 0) w:=by
   have zu:(⟨⟨[]⟩⟩:ByteArray).size=0:=rfl
   cases A<;>simp[Builtin.append_,run_underlying hu,run_underlying ud,Go.sizeOf,typeInfo,hi,Builtin.lenOf,Builtin.firstCells,storeCells,zu]
  refine Jr (Ka h hg) (Yr (vm _ _ ka) ?_)
  exact sx rfl _ (h.put hlt (.v _))
 ·have vv:(Builtin.append_ #[t,t'] ty #[.slice A 0 0,.string ⟨⟨l⟩⟩]).run P w=(Builtin.append_ #[t,t'] ty #[.slice none 0 0,.string ⟨⟨l⟩⟩]).run P w:=by
   have hn:=run_append_nil_string (P:=P) w t t' ty e i (.int .u8 0) hu ud hi (by rw[vy,hz]) ⟨⟨l⟩⟩ (by rw[wj]; omega) (by rw[wj]; omega) (by rw[yq,yi,wj]; omega)
   cases A with
   | none=>rfl
   | some ad =>
    have:=run_append_grow_string (P:=P) w t t' ty e i (.int .u8 0) hu ud hi (by rw[vy,hz]) ad 0 0 [] (by simp) (by simp) ⟨⟨l⟩⟩ (by rw[wj]; omega) (by rw[wj]; omega) (by rw[yq,yi,wj]; exact growslice_fits (by omega) (by omega))
    have e0:(strCells ⟨⟨l⟩⟩).toArray=(List.map (fun b=>Value.int .u8 (b.toNat:Int)) l).toArray:=by simp[strCells]
    rw[this,hn]; simp[e0]
  have h0:=Sb.addNilM h e (Qa0 .u8)
  obtain⟨v',w1,ka,zl,kg,hblk⟩:=Qbh (P:=P) (w:=w) (ty:=ty) hu ud hi (by rw[vy,hz]) (by rw[tj,kj]) (by rw[yq,yi]) (base:=0) (v:=.slice none 0 0) (n:=0) (xs:=[]) (World.ownsRowS_nil w 0 e 1) ⟨⟨l⟩⟩ (by rw[wj]; omega) (QM _)
  rw[wj]at zl
  refine Jr (Ka h hg) (Yr (vm _ _ (vv.trans ka)) ?_)
  have yj:∃A' c',v'=.slice A' (0+l.length) c':=by
   rcases zl.2 with⟨rfl,h0⟩ | ⟨g,cap,cur,fz,rfl,_⟩
   ·grind
   grind
  obtain⟨A',c',rfl⟩:=yj
  rw[QK]at zl
  rw[QK]at hblk
  have hS:Sb β X G D H (ml (.slice A' l.length c') e (Qa0 .u8) (Zu l)::O) a w1:=by
   refine h0.upd (O1:=[]) rfl kg.os kg.tape kg.output kg.size (fun b hb hn=>kg.block b hb fun e=>hn e.symm) (fun b o hb=>hb) (fun g hg=>?_) fun kq kn=>?_
   ·rcases hblk with xb | ⟨xb,_⟩
    ·exact .inl (by have hg:(Value.slice A' l.length c').ownBlock=some g:=hg; rw[xb]at hg; exact hg)
    ·have hg:(Value.slice A' l.length c').ownBlock=some g:=hg
     rw[xb]at hg; grind
   ·refine⟨by simp[K0,rp],strCells ⟨⟨l⟩⟩,(by have q:=zl; simp only[QY]at q; exact q),?_⟩
    rw[Sr]
    exact Qdy _
  have:=ng A' c' (a.put (some d) (.slice A' l.length c')) w1
  rw[rp]at this
  rw[QK]
  exact this (hS.put hlt (.v _))
end
section
variable {P:Program} {Y:TX} {X:Cx} {S:XS} {β β':Nat→Nat} {ρ ρ':Nat→Value} {a a':Act} {w w':World} {n:Nat}
variable {ops:Array Oper} {Q:Exit→Act→World→Prop} {rest:List Oper} {R:Type} {k:XS→Option R} {r:R}
theorem Q98(hT:Q6 P Y.T)(hX:X.n=n)(hr:X.res=[])(h:Rel X β ρ S.flat a w){o:Oper}(hw:Region.wanted o (yielded ops a.tmps)=true){d:Nat}(hd:o.dst=some d)(zi:okW n S d=true){id:Nat}
  (hb:okB ⟨S.env,S.fix,Jx S.mem id,S.fixM,S.prot⟩ d=true)
  {t t':TypeId} {s x:Operand} (ko:o.op=.call ⟨.builtin .append,⟨[s,x]⟩,⟨[t,t']⟩⟩) {te te' ee:TE} {e:TypeId} (ku:Qh Y.T t=some te) (kr:te.d=.slice e) (uu:Qh Y.T t'=some te') (vo:te'.d=.string) (he:Qh Y.T e=some ee)
  (hz:ee.z=.int .u8 0) (kj:ee.size=1) (yi:ee.bytes=1) {l:Str} (hs:S.ev [] s=some (.s id)) (hx:S.ev [] x=some (.d .str l)) {xs zs:List Int} (hm:Qe S.mem id=some (.row e (.int .u8) xs))
  (zn:app 1 xs (Zu l)=some zs) (hk:k (({ S with mem:=Jx S.mem id }.born d (.row e (.int .u8) zs)).put d [] (.s d))=some r) (H:KOk P ops Q rest X S β ρ k r):wpList P ops Q (o::rest) a w:=by
 obtain⟨f1,f2,f3⟩:=H1 hb
 obtain⟨h1,h2⟩:=Vb zi hX hr
 have hg:=Lk h hw
 have uq:a.eval x=Yk l:=h.toW.str (Qd a) hx rfl
 obtain⟨c1,zh,⟨v0,yo,zy⟩,A,m,c,hρ⟩:=h.ev (Qd a) hs
 subst yo
 have zz:Qe S.flat.mem id=some (.row e (.int .u8) xs):=Q4 hm
 have e4':Jx S.mem id++S.fixM=Jx S.flat.mem id:=(Kv hm).symm
 rcases zy with zy | ⟨wo,A0,zy⟩
 case inr =>
  have zx:a.eval s=.slice A0 0 0:=by rw[zh,←zy]; rfl
  have xn:xs=[]:=by
   have:=(h.ob zz).1.1
   rw[wo]at this
   exact List.length_eq_zero_iff.1 this.symm
  subst xn
  have hR:=h.dropM zz
  rw[Bt o,hd,ko]at hg ⊢
  refine Q4d (a:=a) hT hR.toG hg h1 ku kr uu vo he hz kj yi (by rw[gvE h (Qd a) hs,zx]) (by rw[gvE h (Qd a) hx,uq]) zn (fun hz a' hS=>?_) fun A' c' a' w' hS=>?_
  ·subst hz
   rw[←e4']at hS
   exact H β (upd ρ d (.slice none 0 0)) _ _ _ hk ⟨rfl,rfl,rfl,Gk f3 (Jz d β ρ _)⟩ (Qpk (u:=.int .u8) (S:={ S with mem:=Jx S.mem id }) hX hr h.sz zi f1 f2 f3 hS)
  ·rw[←e4']at hS
   refine H β (upd ρ d (.slice A' zs.length c')) _ _ _ hk ⟨rfl,rfl,rfl,Gk f3 (Jz d β ρ _)⟩ ?_
   exact Zl (S:={ S with mem:=Jx S.mem id }) (o:=.row e (.int .u8) zs) hX hr h.sz zi f1 f2 f3 hS (by simp only[Q0,Je]; exact Gi.refl _) ⟨_,_,_,rfl⟩
 have zx:a.eval s=.slice A m c:=by rw[zh,←hρ,←zy]; rfl
 obtain⟨l1,l2,e1,_,e3⟩:=Jv zz
 have hO:Qi β ρ S.flat.mem=Qi β ρ l1++ml (.slice A m c) e (Qa0 .u8) xs::Qi β ρ l2:=by rw[e1]; simp[Qi,Q0,hρ,rt]
 rw[Bt o,hd,ko]at hg ⊢
 refine Qpl hT h.toG (Qi β ρ l1) (Qi β ρ l2) hg h1 ku kr uu vo he hz kj yi hO (by rw[gvE h (Qd a) hs,zx]) (by rw[gvE h (Qd a) hx,uq]) zn fun A' c' a' w' hS=>?_
 refine H β (upd ρ d (.slice A' zs.length c')) _ _ _ hk ⟨rfl,rfl,rfl,Gk f3 (Jz d β ρ _)⟩ ?_
 have e4:Jx S.mem id++S.fixM=l1++l2:=by rw[←Kv hm]; exact e3
 have hS':=hS.perm (O':=ml (.slice A' zs.length c') e (Qa0 .u8) zs::Qi β ρ (Jx S.mem id++S.fixM)) (by rw[e4]; simp[Qi,QB,List.perm_middle])
 exact Zl (S:={ S with mem:=Jx S.mem id }) (o:=.row e (.int .u8) zs) hX hr h.sz zi f1 f2 f3 hS' (by simp only[Q0,Je]; exact Gi.refl _) ⟨_,_,_,rfl⟩
theorem Q99(hT:Q6 P Y.T)(hX:X.n=n)(hr:X.res=[])(h:Rel X β ρ S.flat a w){o:Oper}(hw:Region.wanted o (yielded ops a.tmps)=true){d:Nat}(hd:o.dst=some d)(zi:okW n S d=true)(hb:okB S d=true)
  {t t':TypeId} {s x:Operand} (ko:o.op=.call ⟨.builtin .append,⟨[s,x]⟩,⟨[t,t']⟩⟩) {te te' ee:TE} {e:TypeId} (ku:Qh Y.T t=some te) (kr:te.d=.slice e) (uu:Qh Y.T t'=some te') (vo:te'.d=.string) (he:Qh Y.T e=some ee)
  (hz:ee.z=.int .u8 0) (kj:ee.size=1) (yi:ee.bytes=1) {l:Str} (hs:S.ev [] s=some .ns) (hx:S.ev [] x=some (.d .str l)) {zs:List Int}
  (zn:app 1 [] (Zu l)=some zs) (hk:k ((S.born d (.row e (.int .u8) zs)).put d [] (.s d))=some r) (H:KOk P ops Q rest X S β ρ k r):wpList P ops Q (o::rest) a w:=by
 obtain⟨f1,f2,f3⟩:=H1 hb
 obtain⟨h1,h2⟩:=Vb zi hX hr
 have hg:=Lk h hw
 have uq:a.eval x=Yk l:=h.toW.str (Qd a) hx rfl
 obtain⟨c1,zh,yo⟩:=h.ev (Qd a) hs
 have lj:c1=_:=yo
 subst lj
 have zx:a.eval s=.slice none 0 0:=zh
 have ur:Sb (fun _=>0) X (Qht X.n a) (S.flat.env.map (enD β ρ a)) [] (ml (.slice none 0 0) e (Qa0 .u8) []::Qi β ρ S.flat.mem) a w:=Sb.addNilM h.toG e (Qa0 .u8)
 rw[Bt o,hd,ko]at hg ⊢
 refine Qpl hT ur [] (Qi β ρ S.flat.mem) hg h1 ku kr uu vo he hz kj yi rfl (by rw[gvE h (Qd a) hs,zx]) (by rw[gvE h (Qd a) hx,uq]) zn fun A' c' a' w' hS=>?_
 refine H β (upd ρ d (.slice A' zs.length c')) _ _ _ hk (U0 f3 (Jz d β ρ _) _ _ _) ?_
 exact Zl (o:=.row e (.int .u8) zs) hX hr h.sz zi f1 f2 f3 hS (by simp only[Q0,Je]; exact Gi.refl _) ⟨_,_,_,rfl⟩
theorem Q4e(hT:Q6 P Y.T)(hX:X.n=n)(hr:X.res=[])(h:Rel X β ρ S.flat a w){o:Oper}(hw:Region.wanted o (yielded ops a.tmps)=true){d:Nat}(hd:o.dst=some d)(zi:okW n S d=true)(hb:okB S d=true)
  {s t:TypeId} {x:Operand} (ko:o.op=.convert s t x) {se te ee:TE} {e:TypeId} (zh:Qh Y.T s=some se) (ku:Qh Y.T t=some te) (kr:te.d=.slice e) (he:Qh Y.T e=some ee) (hed:ee.d=.int .u8)
  {l:Str} (hx:S.ev [] x=some (.d .str l)) {zs:List Int} (zn:app 1 [] (Zu l)=some zs) (hk:k ((S.born d (.row e (.int .u8) zs)).put d [] (.s d))=some r) (H:KOk P ops Q rest X S β ρ k r):wpList P ops Q (o::rest) a w:=by
 obtain⟨f1,f2,f3⟩:=H1 hb
 obtain⟨h1,h2⟩:=Vb zi hX hr
 have uq:a.eval x=Yk l:=h.toW.str (Qd a) hx rfl
 obtain⟨zd,y9⟩:=Qi6 zn
 simp only[QY]at y9
 subst y9
 have rp:(Zu l).length=l.length:=by simp[Zu]
 have wj:(⟨⟨l⟩⟩:ByteArray).size=l.length:=rfl
 have sr:=(Jq hT zh).2
 have p9:=(Jq hT ku).2; rw[kr]at p9
 have mr:=(Jq hT he).2; rw[hed]at mr
 have we:=run_convert_string_bytes (P:=P) w s t e ⟨⟨l⟩⟩ sr p9 mr
 have ka:(execOp a.eval o).run P w=.ok (.value (.slice (some ⟨w.heap.size,0,none⟩) l.length (grownCap w l.length 0 e))) (bytesWorld w e ⟨⟨l⟩⟩):=by
  simp_all [execOp,Yk,Sem.run_bind]
 refine Jr hw (Yr ka ?_)
 have ti:=grownCap_ge w l.length 0 e
 have yy:grownCap w l.length 0 e≤maxLen:=grownCap_le_maxLen w l.length 0 e (by rw[I9]; grind)
 have ra:(bytesCells w e ⟨⟨l⟩⟩).size=grownCap w l.length 0 e:=by
  simp only[bytesCells,ZX,Array.size_map,Array.size_replicate,wj]
  have:(⟨l⟩:Array UInt8).size=l.length:=rfl
  omega
 have kb:(bytesWorld w e ⟨⟨l⟩⟩).ownsRowS 0 e 1 (.slice (some ⟨w.heap.size,0,none⟩) l.length (grownCap w l.length 0 e)) l.length (strCells ⟨⟨l⟩⟩):=by
  refine⟨by rw[strCells_length,wj,ZJ],.inr ⟨w.heap.size,_,_,_,rfl,QM _,bytesWorld_at_new w e ⟨⟨l⟩⟩,.inr rfl,ti,yy,by rw[ra,ZJ]; grind,?_⟩⟩
  simp only[bytesCells,Array.toList_append,ZJ]
  rw[JO (by simp),List.take_of_length_le (by simp)]
  simp[strCells]
 have zo:=Qzi w e ⟨⟨l⟩⟩
 have hS:=Sb.allocTL h.toG zo (t:=ml (.slice (some ⟨w.heap.size,0,none⟩) l.length (grownCap w l.length 0 e)) e (Qa0 .u8) (Zu l)) (fun g hg=>by
  have hg:some w.heap.size=some g:=hg
  grind) ⟨by simp[K0,rp],_,kb,by rw[Sr]; exact Qdy _⟩
 rw[hd]
 refine H β (upd ρ d (.slice (some ⟨w.heap.size,0,none⟩) l.length (grownCap w l.length 0 e))) _ _ _ hk (U0 f3 (Jz d β ρ _) _ _ _) ?_
 exact Zl (o:=.row e (.int .u8) (Zu l)) hX hr h.sz zi f1 f2 f3 (hS.put h1 (.v _)) (by simp only[Q0,Je]; exact Gi.refl _) ⟨_,_,_,rfl⟩
end
end Gx

/- The builtin copy. -/
namespace Gx
open Go Go.RowKit Gd
set_option linter.unusedVariables false
set_option linter.unusedSimpArgs false
theorem Qtf{τ:Type}{r:RT τ}{ok:Ok}{w:World}:∀{xs:List τ} {cs:List Value} (k:Nat),Ks r ok w xs cs→Ks r ok w (xs.drop k) (cs.drop (k*r.size))
 | xs,cs,0,h=>by simpa using h
 | [],cs,k+1,h=>by
  have h':cs=[]:=h
  grind
 | x::xs,cs,k+1,⟨c1,c2,e,h1,h2⟩=>by
  have hl:=r.len h1
  subst e
  have e2:(c1++c2).drop ((k+1)*r.size)=c2.drop (k*r.size):=by
   rw[List.drop_append,JC (by rw[hl,Nat.add_mul]; omega),QY,hl]
   grind
  rw[e2]
  simpa using Qtf k h2
theorem Qtg{τ:Type}{r:RT τ}{ok:Ok}{w:World}:∀{xs:List τ} {cs:List Value} (k:Nat),Ks r ok w xs cs→Ks r ok w (xs.take k) (cs.take (k*r.size))
 | xs,cs,0,h=>by simp[Ks]
 | [],cs,k+1,h=>by
  have h':cs=[]:=h
  grind
 | x::xs,cs,k+1,⟨c1,c2,e,h1,h2⟩=>by
  have hl:=r.len h1
  subst e
  refine⟨c1,c2.take (k*r.size),?_,h1,Qtg k h2⟩
  rw[XG,List.take_of_length_le (by rw[hl,Nat.add_mul]; omega),hl]
  grind
theorem Jkr{P:Program}{w:World}(a:Addr)(cs:List Value)(k:Nat)(hk:cs.length=k)(h:∀j v,cs[j]?=some v→w.cell? (a.add j)=some v):(loadCells a k).run P w=.ok cs.toArray w:=by
 grind [run_loadCells_list]
section
variable {P:Program} {w:World} {dT sT ty elem:TypeId} {i:TypeInfo}
theorem Jaa(hu:P.underlying dT=some (.slice elem))(hi:P.info? elem=some i){d a:Option Addr}{dLen dCap sLen sCap:Nat}(hn:Nat.min sLen dLen=0) :
  (Builtin.copy_ #[dT,sT] ty #[.slice d dLen dCap,.slice a sLen sCap]).run P w=.ok (goInt 0) w:=by
 have hl:∀(x:Addr),(loadCells x 0).run P w=.ok #[] w:=fun x=>Jkr x [] 0 rfl (by simp)
 cases d<;>cases a<;>simp[Builtin.copy_,run_underlying hu,Builtin.lenOf,Builtin.firstCells,Go.sizeOf,typeInfo,hi,hn,storeCells,hl]
theorem Jab(hu:P.underlying dT=some (.slice elem))(hi:P.info? elem=some i){g dLen dCap sLen sCap:Nat}{a:Addr}{cur:Array Value}{t:TypeId}{fz:Nat×Nat}{cs:List Value}(hg:w.heap[g]?=some (.cells cur t fz))(z8:Qvf fz cur.size)
  (hn:cs.length=Nat.min sLen dLen*i.size) (hsrc:∀j v,cs[j]?=some v→w.cell? (a.add j)=some v) (tw:cs.length≤cur.size) (h1:∀v∈cs,v.oneCell'=true) :
  (Builtin.copy_ #[dT,sT] ty #[.slice (some ⟨g,0,none⟩) dLen dCap,.slice (some a) sLen sCap]).run P w=.ok (goInt (Nat.min sLen dLen:Nat)) (w.setRow g (cs++cur.toList.drop cs.length).toArray):=by
 have hl:=Jkr (P:=P) (w:=w) a cs _ hn hsrc
 have zj:=Uu P g 0 t fz cs 0 cur w hg z8 (by grind) h1
 simp only[JP,QK,XM,QY]at zj
 simp_all [Builtin.copy_,run_underlying,Builtin.lenOf,Builtin.firstCells,Go.sizeOf,typeInfo]
end
section
variable {P:Program} {Y:TX} {X:Cx} {S:XS} {β β':Nat→Nat} {ρ ρ':Nat→Value} {a a':Act} {w w':World} {n:Nat}
variable {ops:Array Oper} {Q:Exit→Act→World→Prop} {rest:List Oper} {R:Type} {k:XS→Option R} {r:R}
theorem Jnm(hT:Q6 P Y.T)(hX:X.n=n)(hr:X.res=[])(h:Rel X β ρ S.flat a w){o:Oper}(hw:Region.wanted o (yielded ops a.tmps)=true){d:Nat}(hd:o.dst=some d)(zi:okW n S d=true){t t':TypeId}{dst src:Operand}
  (ko:o.op=.call ⟨.builtin .copy,⟨[dst,src]⟩,⟨[t,t']⟩⟩) {te ee:TE} {e:TypeId} (ku:Qh Y.T t=some te) (kr:te.d=.slice e) (he:Qh Y.T e=some ee) {id:Nat} {xv:AV} {et:TypeId} {u:Ty} {xs ys:List u.De} (hs:S.ev [] dst=some (.s id)) (hx:S.ev [] src=some xv)
  (hm:Qe S.mem id=some (.row et u xs)) (hy:asD S.flat.mem xv (.sl u)=some ys) (kj:Nat.beq ee.size u.size=true) (zr:Nat.ble 1 u.size=true)
  (hk:k ((S.set id (.row et u (Cp xs ys))).put d [] (.d (.int .i64) (Qey xs ys)))=some r) (H:KOk P ops Q rest X S β ρ k r):wpList P ops Q (o::rest) a w:=by
 obtain⟨h1,h2⟩:=Vb zi hX hr
 have zz:Qe S.flat.mem id=some (.row et u xs):=Q4 hm
 obtain⟨l1,l2,e1,e2,e3⟩:=Jv zz
 obtain⟨c1,zh,⟨v0,yo,zy⟩,A,m,c,hρ⟩:=h.ev (Qd a) hs
 subst yo
 have xh:(Ty.sl u).agg=xv.isAgg:=by
  cases xv with
  | d t' y'=>obtain⟨rfl,_⟩:=Ty.cast_ok (by simpa only[asD]using hy); rfl
  | ag l=>simp[asD]at hy
  | _=>rfl
 have p7:=h.toW.asD (Qd a) hx hy xh
 obtain⟨A2,c2,xm,vl⟩:=Qi5 (r:=rt u) p7
 obtain⟨cs,xf,va,hyc,hA2,py,ju,hc4⟩:=Ng (Zr.1 vl)
 obtain⟨i,hi,_,his,_⟩:=Wp hT he
 have hu:=(Jq hT ku).2; rw[kr]at hu
 have hsu:=Nat.eq_of_beq_eq_true kj
 obtain⟨⟨wz,cs0,xc,jo⟩,_⟩:=h.ob zz
 have hO:Qi β ρ S.flat.mem=Qi β ρ l1++ml (ρ id) et (rt u) xs::Qi β ρ l2:=by rw[e1]; simp[Qi,Q0]
 have ni:∀w1,Sb (fun _=>0) X [] (S.flat.env.map (enD β ρ a)) [] (Qi β ρ l1++ml (ρ id) et (rt u) (Cp xs ys)::Qi β ρ l2) a w1→wpList P ops Q rest (a.put (some d) (goInt (Qey xs ys))) w1:=by
  intro w1 hS
  have hE:(S.set id (.row et u (Cp xs ys))).flat=⟨S.flat.env,Qhb S.flat.mem id (.row et u (Cp xs ys))⟩:=by
   grind [XS.flat,XS.set,Ez]
  refine H β ρ ((S.set id (.row et u (Cp xs ys))).put d [] (.d (.int .i64) (Qey xs ys))) _ _ hk ⟨rfl,rfl,rfl,agP.refl _ _ _⟩ ?_
  have ke:Qi β ρ (l1++(id,Ob.row et u (Cp xs ys))::l2)=Qi β ρ l1++ml (ρ id) et (rt u) (Cp xs ys)::Qi β ρ l2:=by simp[Qi,Q0]
  have hRel:Rel X β ρ (S.set id (.row et u (Cp xs ys))).flat a w1:=by
   rw[hE,e2]
   exact Rel.ofSb hS ke.symm fun e he=>by
    have:=Yc.1 hS.dat _ (QZ.2 ⟨e,he,rfl⟩)
    rw[←ke]at this
    exact this
  have:=hRel.put0 h1 (x:=.d (.int .i64) (Qey xs ys)) (c:=[.int .i64 (Qey xs ys)]) rfl
  rw[←Xi (S:=S.set id (.row et u (Cp xs ys))) h2]at this
  exact this
 have tn:∀v,a.eval dst=v→(execOp a.eval o).run P w=((Builtin.copy_ #[t,t'] o.type #[v,.slice A2 ys.length c2]).run P w).andThen fun v w'=>.ok (.value v) w':=by
  simp_all [execOp,resolve,invoke,builtin]
 have hzero:∀v A' m' c',a.eval dst=v→v=.slice A' m' c'→Nat.min ys.length m'=0→Nat.min ys.length xs.length=0→wpList P ops Q (o::rest) a w:=by
  intro v A' m' c' hv u6 jm hn1
  refine Jr hw (Yr (w':=w) (v:=goInt 0) (by rw[tn v hv,u6,Jaa hu hi jm]; rfl) ?_)
  rw[hd]
  have hcl0:Cp xs ys=xs:=by grind [Cp]
  have hcn0:Qey xs ys=0:=by grind [Qey]
  have:=ni w
  rw[hcl0,hcn0,←hO]at this
  exact this h
 rcases zy with zy | ⟨wo,A0,zy⟩
 case inr =>
  have zx:a.eval dst=.slice A0 0 0:=by rw[zh,←zy]; rfl
  have xn:xs.length=0:=by rw[wo]at wz; exact wz.symm
  grind
 have zx:a.eval dst=.slice A m c:=by rw[zh,←hρ,←zy]; rfl
 have u9:m=xs.length:=by rw[hρ]at wz; exact wz
 by_cases jm:Nat.min ys.length xs.length=0
 ·grind
 have fl:0<ys.length:=by have:=Nat.min_le_left ys.length xs.length; grind
 have hxpos:0<xs.length:=by grind
 obtain⟨b2,o2,rfl,yb⟩:=ju fl
 rcases xc.2 with⟨hv,hn⟩ | ⟨g,cap,cur,fz,hv,_,hh,z8,hle,yy,z6,wa⟩
 ·rw[hρ]at hv; grind
 rw[hρ]at hv
 injection hv with hA uo wb
 subst hA
 have xr:K0 (ρ id)=xs.length:=wz
 rw[xr]at hle wa
 have husz:(rt u).size=u.size:=Jp u
 have hisz:i.size=(rt u).size:=by rw[his,hsu,husz]
 have hnle:Nat.min ys.length xs.length≤xs.length:=Nat.min_le_right _ _
 have fo:Nat.min ys.length xs.length≤ys.length:=Nat.min_le_left _ _
 generalize ab:Nat.min ys.length xs.length=k0 at *
 have hkm:k0*(rt u).size≤xs.length*(rt u).size:=QD _ hnle
 have hkm2:k0*(rt u).size≤ys.length*(rt u).size:=QD _ fo
 have hmc:xs.length*(rt u).size≤cap*(rt u).size:=QD _ hle
 have nj:(cs.take (k0*(rt u).size)).length=k0*(rt u).size:=by rw[List.length_take,xf]; omega
 have fp:cap*(rt u).size≤cur.toList.length:=by simpa using z6
 have zj:=Jab (P:=P) (w:=w) (dT:=t) (sT:=t') (ty:=o.type) hu hi (dLen:=m) (dCap:=c) (sLen:=ys.length) (sCap:=c2) (a:=⟨b2,o2,none⟩) (cs:=cs.take (k0*(rt u).size)) hh z8 (by rw[nj,u9,ab,hisz]) (fun j v hj=>by
   rw[Hg]
   grind) (by rw[nj]; omega) (fun v hv=>py v (XB hv))
 refine Jr hw (Yr (w':=w.setRow g (cs.take (k0*(rt u).size)++cur.toList.drop (cs.take (k0*(rt u).size)).length).toArray) (v:=goInt (Qey xs ys)) (by rw[tn _ zx,zj]; simp only[Qey,u9,ab]; rfl) ?_)
 rw[hd]
 have wu:=setRow_heap w g cur (cs.take (k0*(rt u).size)++cur.toList.drop (cs.take (k0*(rt u).size)).length).toArray et _ hh
 have rq:(cs.take (k0*(rt u).size)++cur.toList.drop (cs.take (k0*(rt u).size)).length).length=cur.toList.length:=by
  rw[List.length_append,List.length_drop,nj]; omega
 have fq:(Cp xs ys).length=xs.length:=by
  grind [Cp,List.length_append,List.length_take,List.length_drop]
 have zw:Ks (rt u) (Jg X.ok X.w.heap.size (fun _=>0) [] (Qi β ρ S.flat.mem) w) w (ys.take k0) (cs.take (k0*(rt u).size)):=by
  have ze:Ks (rt u) (Jg X.ok X.w.heap.size (fun _=>0) [] (Qi β ρ S.flat.mem) w) w ys cs:=Qg6 ys cs xf hc4
  grind [Qtg]
 have hS:=Sb.upd h (O1:=Qi β ρ l1) (O2:=Qi β ρ l2) (t:=ml (ρ id) et (rt u) xs) (t':=ml (ρ id) et (rt u) (Cp xs ys)) (w':=w.setRow g (cs.take (k0*(rt u).size)++cur.toList.drop (cs.take (k0*(rt u).size)).length).toArray) hO rfl rfl rfl (by simp)
  (fun b hb hn=>setRow_other _ _ _ _ fun e=>hn (by subst e; show(ρ id).ownBlock=_; rw[hρ]; rfl)) (fun b o hb=>hb) (fun g hg=>.inl hg) fun kq kn=>by
   refine⟨by rw[xr,fq],_,⟨?_,.inr ⟨g,cap,_,fz,by rw[hρ,wb]; rfl,QM _,wu,by rw[JF,rq]; simpa using z8,by rw[xr]; exact hle,yy,by rw[JF,rq]; exact fp,rfl⟩⟩,?_⟩
   ·rw[xr]
    grind
   ·rw[xr]
    show Ks (rt u) _ _ (Cp xs ys) (List.take (xs.length*(rt u).size) (cs.take (k0*(rt u).size)++cur.toList.drop (cs.take (k0*(rt u).size)).length))
    have e5:List.take (xs.length*(rt u).size) (cs.take (k0*(rt u).size)++cur.toList.drop (cs.take (k0*(rt u).size)).length)=cs.take (k0*(rt u).size)++(cs0.drop (k0*(rt u).size)):=by
     rw[XG,nj,List.take_of_length_le (by rw[nj]; exact hkm),←wa,List.drop_take]
    rw[e5]
    have h6:=Nh (Xp (Fd zw kq) kn) (Xp (Fd (Qtf k0 jo) kq) kn)
    grind [Cp]
 exact ni _ hS
end
end Gx

/- A key is taken out of a map; the beginning of a row of one's own. -/
namespace Gx
open Go Go.RowKit Gd
set_option linter.unusedVariables false
set_option linter.unusedSimpArgs false
section
variable {P:Program} {T:Tab}
theorem Qv6(hT:Q6 P T){kt:TypeId}{te:TE}(ht:Qh T kt=some te){k:Ty}(h:Y5 T k te.d=true)(key:k.De){ν:Type}{s:RT ν}{ok:Ok}{w:World}:∀{xs:List (k.De×ν)} {es:List MapEntry},Do (rt k) s ok w xs es →
  (Qw key xs=none∧Iv key xs=xs) ∨
  (∃(j:Nat) (e:MapEntry),(∀i,(Instr.findAsking kt (Yw k key) es i).run P w=.ok (some (i+j,e.val)) w)∧es[j]?=some e∧Do (rt k) s ok w (Iv key xs) (es.eraseIdx j))
 | [],es,hp=>.inl ⟨rfl,rfl⟩
 | x::xs,es,hp=>by
  obtain⟨e,es',rfl,h1,h2,h3⟩:=hp
  have hk:=Cn (Vp h) h1
  have heq:=Qfm hT ht h key x.1 w
  simp only[Iv,Qw,Instr.findAsking,Sem.run_bind,hk,heq,Result.andThen_ok]
  cases he:eqK k key x.1 with
  | true=>exact .inr ⟨0,e,by simp,rfl,h3⟩
  | false =>
   rcases Qv6 hT ht h key h3 with⟨q1,q2⟩ | ⟨j,e',q2,q3,q5⟩
   ·grind
   ·exact .inr ⟨j+1,e',fun i=>by rw[show i+(j+1)=i+1+j by omega]; grind,q3,⟨e,_,rfl,h1,h2,q5⟩⟩
theorem Qzj{k:Ty}{ν:Type}(key:k.De):∀{xs:List (k.De×ν)},(Iv key xs).Sublist xs
 | []=>List.Sublist.refl _
 | x::xs=>by
  simp only[Iv]
  cases eqK k key x.1 with
  | true=>grind
  | false=>exact(Qzj key).cons_cons _
theorem Q4f(hT:Q6 P T){t kt et:TypeId}{te tk:TE}(ht:Qh T t=some te)(kr:te.d=.map kt et)(hk:Qh T kt=some tk)
  {k:Ty} {ν:Type} {s:RT ν} (hd:Y5 T k tk.d=true) {ok:Ok} {w:World} {g:Nat} {es:Array MapEntry} {clock:Nat} (hg:w.heap[g]?=some (.map es clock)) {xs:List (k.De×ν)} (hp:Do (rt k) s ok w xs es.toList) (zj:Qbo es clock) (key:k.De) (kt' ty:TypeId) :
  ∃es',(Builtin.delete_ #[t,kt'] ty #[.map (some g),Yw k key]).run P w=.ok (.tuple #[]) { w with heap:=w.heap.setIfInBounds g (.map es' clock) }∧Do (rt k) s ok w (Iv key xs) es'.toList∧Qbo es' clock:=by
 have hu:=(Jq hT ht).2
 rw[kr]at hu
 rcases Qhd hT hk hd key w hp with⟨q1,q2⟩ | ⟨j,e,y,q1,q2,q3,q4,q5⟩
 ·refine⟨es,?_,?_,zj⟩
  ·simp[Builtin.delete_,run_underlying hu,MapKept.run_getObj_map hg,Hz hT hk hd,q2,MapKept.run_setObj_map _ hg,Result.andThen]
  grind [Qv6,Qfn]
 ·rcases Qv6 hT hk hd key hp with⟨r1,_⟩ | ⟨j',e',r1,r2,r3⟩
  ·rw[q1]at r1; cases r1
  ·have r4:=r1 0
   have:=Qfn hT hk hd key w hp r4
   rw[q2]at this
   injection this with this
   simp only[Option.some.injEq,Prod.mk.injEq]at this
   have hj:j=j':=by omega
   subst hj
   have hlt:j<es.size:=by have:=(List.getElem?_eq_some_iff.1 q3).1; grind
   have hl:(es.eraseIdxIfInBounds j).toList=es.toList.eraseIdx j:=by
    unfold Array.eraseIdxIfInBounds
    rw[dif_pos hlt,Array.toList_eraseIdx]
   refine⟨es.eraseIdxIfInBounds j,?_,by rw[hl]; exact r3,?_,fun e he=>?_⟩
   ·simp[Builtin.delete_,run_underlying hu,MapKept.run_getObj_map hg,Hz hT hk hd,q2,MapKept.run_setObj_map _ hg,Result.andThen]
   ·rw[hl]
    exact zj.1.sublist ((ZE _ _).map _)
   ·rw[hl]at he
    exact zj.2 e ((ZE _ _).subset he)
end
section
variable {P:Program} {Y:TX} {X:Cx} {S:XS} {β β':Nat→Nat} {ρ ρ':Nat→Value} {a a':Act} {w w':World} {n:Nat}
variable {ops:Array Oper} {Q:Exit→Act→World→Prop} {rest:List Oper} {R:Type} {k:XS→Option R} {r:R}
theorem Jef(hT:Q6 P Y.T)(h:Rel X β ρ S.flat a w){o:Oper}(hw:Region.wanted o (yielded ops a.tmps)=true){t t':TypeId}{m ky:Operand}(ko:o.op=.call ⟨.builtin .delete,⟨[m,ky]⟩,⟨[t,t']⟩⟩)(hd:o.dst=none){te tk:TE}{kt et:TypeId}(ku:Qh Y.T t=some te)(kr:te.d=.map kt et)(xy:Qh Y.T kt=some tk)
  {id:Nat} {kv:AV} {kk v:Ty} {xs:List (kk.De×v.De)} {key:kk.De} (hm:S.ev [] m=some (.m id)) (ux:S.ev [] ky=some kv) (ug:Qe S.mem id=some (.map kk v xs)) (yf:asD [] kv kk=some key)
  (ve:Y5 Y.T kk tk.d=true) (qk:(kk.agg==kv.isAgg)=true)
  (hk:k (S.set id (.map kk v (Iv key xs)))=some r) (H:KOk P ops Q rest X S β ρ k r):wpList P ops Q (o::rest) a w:=by
 obtain⟨c1,h1,h2⟩:=h.ev (Qd a) hm
 have zb:c1=[.map (some (β id))]:=h2
 subst zb
 have k8:a.eval m=.map (some (β id)):=h1
 obtain⟨c3,h3,h4⟩:=h.ev (Qd a) ux
 have mo:isV (rt kk) (okR X β ρ S.flat.mem w) w key (a.eval ky):=by
  refine⟨c3,K2 (M:=[]) (β:=β) (ρ:=ρ) (by simp[Qe]) yf h4,?_⟩
  rw[h3]; simp only[AV.val,RT.val,La,bEq qk]; cases kv.isAgg<;>rfl
 have pd:=Cn (Vp ve) mo
 have zz:Qe S.flat.mem id=some (.map kk v xs):=Q4 ug
 obtain⟨⟨es,clock,hg,hp,ye,lf,lg⟩,zg⟩:=h.ob zz
 obtain⟨es',ka,xd,uk⟩:=Q4f hT ku kr xy ve hg hp ⟨lf,lg⟩ key t' o.type
 have yc:(execOp a.eval o).run P w=.ok (.value (.tuple #[])) { w with heap:=w.heap.setIfInBounds (β id) (.map es' clock) }:=by
  unfold execOp
  have hmm:(Array.mk [m,ky]).map a.eval=⟨[.map (some (β id)),Yw kk key]⟩:=by simp[k8,pd]
  simp only[ko,resolve,hmm,invoke,builtin]
  simp[ka]
 refine Jr hw (Yr yc ?_)
 rw[hd]
 have hO':=Jv zz
 obtain⟨l1,l2,e1,e2,e3⟩:=hO'
 have hO:Qi β ρ S.flat.mem=Qi β ρ l1++Q0 β ρ id (.map kk v xs)::Qi β ρ l2:=by rw[e1]; simp[Qi]
 have hS:=h.upd hO (t':=Q0 β ρ id (.map kk v (Iv key xs))) (w':={ w with heap:=w.heap.setIfInBounds (β id) (.map es' clock) }) rfl rfl rfl (by simp) (fun b hb hn=>(MapKept.heap_set hg).2 b fun e=>hn e) (fun b o hb=>hb) (fun g hg=>.inl hg) (fun kq kn=>by
  refine⟨es',clock,(MapKept.heap_set hg).1,?_,ye.sublist ((Qzj key).map _),uk.1,uk.2⟩
  exact Gg (Pw xd kq) kn)
 have hE:(S.set id (.map kk v (Iv key xs))).flat=⟨S.flat.env,Qhb S.flat.mem id (.map kk v (Iv key xs))⟩:=by
  grind [XS.flat,XS.set,Ez]
 refine H β ρ _ _ _ hk ⟨rfl,rfl,rfl,agP.refl _ _ _⟩ ?_
 rw[hE,e2]
 have ke:Qi β ρ (l1++(id,Ob.map kk v (Iv key xs))::l2)=Qi β ρ l1++Q0 β ρ id (.map kk v (Iv key xs))::Qi β ρ l2:=by simp[Qi]
 exact Rel.ofSb hS ke.symm fun e he=>by
  have:=Yc.1 hS.dat _ (QZ.2 ⟨e,he,rfl⟩)
  rw[←ke]at this
  exact this
theorem Jeg(hT:Q6 P Y.T)(hX:X.n=n)(hr:X.res=[])(h:Rel X β ρ S.flat a w){o:Oper}(hw:Region.wanted o (yielded ops a.tmps)=true){d:Nat}(hd:o.dst=some d)(zi:okW n S d=true){id:Nat}
  (hb:okB ⟨S.env,S.fix,Jx S.mem id,S.fixM,S.prot⟩ d=true) {t:TypeId} {x:Operand} {hi mx:Option Operand} (ko:o.op=.slice t x none hi mx) {te ee:TE} {e:TypeId} (ku:Qh Y.T t=some te) (kr:te.d=.slice e) (he:Qh Y.T e=some ee) {u:Ty} (kj:Nat.beq ee.size u.size=true)
  {xs ys:List u.De} (hx:S.ev [] x=some (.s id)) (hm:Qe S.mem id=some (.row e u xs)) {q:Int} (hq:bnd S.flat [] xs.length hi=some q) (zw:slc xs 0 q=some ys)
  (u9:mx=none∨∃hv mv k1 k2 m,hi=some hv∧mx=some mv∧a.eval hv=.int k1 q∧a.eval mv=.int k2 m∧q≤m∧m≤(xs.length:Int))
  (hk:k (({ S with mem:=Jx S.mem id }.born d (.row e u ys)).put d [] (.s d))=some r) (H:KOk P ops Q rest X S β ρ k r):wpList P ops Q (o::rest) a w:=by
 obtain⟨f1,f2,f3⟩:=H1 hb
 obtain⟨h1,h2⟩:=Vb zi hX hr
 have hg:=Lk h hw
 obtain⟨c1,zh,⟨v0,yo,zy⟩,A,m,c,hρ⟩:=h.ev (Qd a) hx
 subst yo
 have zz:Qe S.flat.mem id=some (.row e u xs):=Q4 hm
 have e4':Jx S.mem id++S.fixM=Jx S.flat.mem id:=(Kv hm).symm
 obtain⟨h0,ae,ah,mw,va⟩:=slc_ok zw
 have ft:ys=xs.take q.toNat:=by rw[mw]; simp
 have xj:(underlying t).run P w=.ok (.slice e) w:=by rw[Ju hT w ku,kr]
 obtain⟨⟨wz,cs0,xc,jo⟩,zg⟩:=h.ob zz
 have ua:=Nat.eq_of_beq_eq_true kj
 have ni:∀(A':Option Addr) (c':Nat),a.eval x=.slice A' xs.length c'→xs.length≤c'→(c'≠0→∀ad,A'=some ad→ad.add 0=ad)→∃c2,ys.length≤c2∧c2≤c'∧(execOp a.eval o).run P w=.ok (.value (.slice A' ys.length c2)) w:=by
  intro A' c' hv yb ib
  obtain⟨c2,pz,ju,hbn⟩:∃c2,ys.length≤c2∧c2≤c'∧(Instr.sliceBounds true xs.length c' none (hi.map a.eval) (mx.map a.eval)).run P w=.ok (0,q.toNat,c2) w:=by
   rcases u9 with rfl | ⟨qy,mv,k1,k2,m,rfl,rfl,e1,e2,e3,e5⟩
   ·exact⟨c',by omega,QU _,Nm (P:=P) (w:=w) (isS:=true) (lo:=none) (len:=xs.length) (cap:=c') (.inl ⟨rfl,rfl⟩) (h.toW.bnd (Qd a) hq) (XV 0) ae (by omega) yb⟩
   ·exact⟨m.toNat,by omega,by omega,Qlg (P:=P) (w:=w) (lo:=none) (len:=xs.length) (cap:=c') (.inl ⟨rfl,rfl⟩) e1 e2 (XV 0) ae e3 (by omega)⟩
  refine⟨c2,pz,ju,?_⟩
  have hA':(if c2=0 then A' else A'.map (·.add (0*u.size)))=A':=by
   split
   ·rfl
   ·rename_i ma
    cases A' with
    | none=>rfl
    | some ad=>rw[XI]; grind
  have hlen:q.toNat - 0=ys.length:=by omega
  unfold execOp
  rw[ko]
  simp only[hv]
  simp[Instr.sliceAt,xj,Instr.slice,hbn,J4 hT w he,ua,hlen]
  simpa using hA'
 rcases zy with zy | ⟨wo,A0,zy⟩
 case inr =>
  have zx:a.eval x=.slice A0 0 0:=by rw[zh,←zy]; rfl
  have xn:xs=[]:=by
   rw[wo]at wz
   exact List.length_eq_zero_iff.1 wz.symm
  subst xn
  have hy0:ys=[]:=by rw[ft]; simp
  subst hy0
  obtain⟨c2,_,ju,ka⟩:=ni A0 0 zx (QU _) (fun h=>absurd rfl h)
  have ma:c2=0:=by omega
  subst ma
  refine Jr hw (Yr ka ?_)
  rw[hd]
  have hS:=(h.dropM zz).toG.put h1 (.v (.slice A0 0 0))
  rw[←e4']at hS
  exact H β (upd ρ d (.slice none 0 0)) _ _ _ hk ⟨rfl,rfl,rfl,Gk f3 (Jz d β ρ _)⟩ (Qpk (S:={ S with mem:=Jx S.mem id }) hX hr h.sz zi f1 f2 f3 hS)
 have zx:a.eval x=.slice A m c:=by rw[zh,←hρ,←zy]; rfl
 have u9:m=xs.length:=by rw[hρ]at wz; exact wz
 subst u9
 have xr:K0 (ρ id)=xs.length:=by rw[hρ]; rfl
 rw[xr,hρ]at xc
 have wb:xs.length≤c∧(c≠0→∀ad,A=some ad→ad.add 0=ad):=by
  rcases xc.2 with⟨hv,h0⟩ | ⟨g,cap,cur,fz,hv,_,_,_,hle,_⟩
  ·grind
  grind [Hg]
 obtain⟨c2,pz,ju,ka⟩:=ni A c zx wb.1 wb.2
 refine Jr hw (Yr ka ?_)
 rw[hd]
 obtain⟨l1,l2,e1,_,e3⟩:=Jv zz
 have hO:Qi β ρ S.flat.mem=Qi β ρ l1++ml (.slice A xs.length c) e (rt u) xs::Qi β ρ l2:=by rw[e1]; simp[Qi,Q0,hρ]
 have hyx:ys.length≤xs.length:=by omega
 have hmul:ys.length*(rt u).size≤xs.length*(rt u).size:=QD _ hyx
 have fp:cs0.length=xs.length*(rt u).size:=xc.1
 have zp:Ks (rt u) (okR X β ρ S.flat.mem w) w ys (cs0.take (ys.length*(rt u).size)):=by
  refine Qg6 ys _ (by rw[List.length_take]; omega) fun i y hy=>?_
  have hiy:=(List.getElem?_eq_some_iff.1 hy).1
  rw[ft,JJ]at hy
  split at hy
  ·refine⟨_,Ff jo hy,fun j v hj=>?_⟩
   rw[JJ]at hj
   split at hj
   ·rename_i hjs
    rw[JX]at hj
    rw[JJ,if_pos ?_]
    ·exact hj
    ·have:(i+1)*(rt u).size≤ys.length*(rt u).size:=QD _ hiy
     rw[Nat.add_mul,ZN]at this
     omega
   ·cases hj
  ·cases hy
 have kb:w.ownsRowS 0 e (rt u).size (.slice A ys.length c2) ys.length (cs0.take (ys.length*(rt u).size)):=by
  refine⟨by rw[List.length_take]; omega,?_⟩
  rcases xc.2 with⟨hv,h0⟩ | ⟨g,cap,cur,fz,hv,me,hh,z8,hle,yy,z6,wa⟩
  ·grind
  ·injection hv with q1 q2 q3
   refine .inr ⟨g,c2,cur,fz,by rw[q1],me,hh,z8,by omega,by omega,Nat.le_trans (QD _ (by omega)) z6,?_⟩
   rw[←wa,XY,Nat.min_eq_left hmul]
 have hS0:=h.toG.upd hO (t':=ml (.slice A ys.length c2) e (rt u) ys) (w':=w) rfl rfl rfl (QU _) (fun _ _ _=>rfl) (fun b o hb=>hb) (fun g hg=>.inl (by
  have ya:(Value.slice A ys.length c2).ownBlock=some g:=hg
  rw[Fb A ys.length xs.length c2 c]at ya; exact ya)) (fun kq kn=>⟨rfl,_,kb,Xp zp kn⟩)
 have hS:=hS0.put h1 (.v (.slice A ys.length c2))
 refine H β (upd ρ d (.slice A ys.length c2)) _ _ _ hk ⟨rfl,rfl,rfl,Gk f3 (Jz d β ρ _)⟩ ?_
 have e4:Jx S.mem id++S.fixM=l1++l2:=by rw[←Kv hm]; exact e3
 have hS':=hS.perm (O':=ml (.slice A ys.length c2) e (rt u) ys::Qi β ρ (Jx S.mem id++S.fixM)) (by rw[e4]; simp[Qi,QB,List.perm_middle])
 exact Zl (S:={ S with mem:=Jx S.mem id }) (o:=.row e u ys) hX hr h.sz zi f1 f2 f3 hS' (by grind [Q0,Je,Gi.refl]) ⟨_,_,_,rfl⟩
theorem Q64(h:Rel X β ρ S.flat a w):∀{ps:List (Nat×Operand)} {vs:List (Nat×AV)} {c:AV} {j:Nat},Y0 S.flat [] ps=some vs→Q9v vs j=some c →
  ∃us:List Value,ps.map (fun p=>(p.1,a.eval p.2))=(List.range' j us.length).zip us∧us.length=vs.length∧(∀v∈us,Qu v=[v])∧cr β ρ (okR X β ρ S.flat.mem w) w false c us
 | [],vs,c,j,he,hx=>by
  simp[Y0]at he; subst he
  simp[Q9v]at hx; subst hx
  exact⟨[],rfl,rfl,by simp,rfl⟩
 | (i,x)::ps,vs,c,j,he,hx=>by
  simp only[Y0]at he
  split at he
  ·rename_i v l hv hl
   simp at he; subst he
   simp only[Q9v]at hx
   obtain⟨hb,hx⟩:=bvT hx
   simp only[QQ]at hb
   have:=Nat.eq_of_beq_eq_true hb.1
   subst this
   split at hx
   ·rename_i r hr
    simp at hx; subst hx
    obtain⟨us,q1,q2,q3,q4⟩:=Q64 h (ps:=ps) hl hr
    obtain⟨cs,p1,p2⟩:=h.ev (Qd a) hv
    have vv:∃q,a.eval x=.pointer q∧cr β ρ (okR X β ρ S.flat.mem w) w false v [.pointer q]:=by
     cases v with
     | np =>
      have p2':cs=_:=p2
      subst p2'
      exact⟨_,p1,rfl⟩
     | p id path =>
      have p2':cs=_:=p2
      subst p2'
      exact⟨_,p1,rfl⟩
     | _=>cases hb.2
    obtain⟨q,e1,e2⟩:=vv
    refine⟨a.eval x::us,?_,by simp[q2],fun u hu=>?_,?_⟩
    ·grind [List.length_cons,List.range'_succ,List.zip_cons_cons]
    ·rcases QJ.1 hu with rfl | hu
     ·rw[e1]; rfl
     ·exact q3 u hu
    ·exact⟨[.pointer q],us,by rw[e1]; rfl,e2,q4⟩
   ·cases hx
  ·cases he
theorem Qpm:∀{us:List Value},(∀v∈us,Qu v=[v])→us.flatMap Qu=us
 | [],_=>rfl
 | v::us,h=>by
  rw[JA,h v (.head _),Qpm fun u hu=>h u (.tail _ hu)]; rfl
theorem Jeh(hT:Q6 P Y.T)(hX:X.n=n)(hr:X.res=[])(h:Rel X β ρ S.flat a w){o:Oper}(hw:Region.wanted o (yielded ops a.tmps)=true){d:Nat}(hd:o.dst=some d)(zi:okW n S d=true)(hb:okB S d=true)
  {t:TypeId} {m:Nat} {ps:List (Nat×Operand)} (ko:o.op=.buildSlice t (m+1) ⟨ps⟩) {te ee:TE} {e:TypeId} (ku:Qh Y.T t=some te) (kr:te.d=.slice e) (he:Qh Y.T e=some ee)
  {vs:List (Nat×AV)} {c:AV} (uf:Y0 S.flat [] ps=some vs) (mj:Q9v vs 0=some c) (ye:Uz d c=true) (hl:Nat.beq vs.length (m+1)=true) (kj:Nat.beq ee.size 1=true) (y8:Nat.beq (Qu ee.z).length 1=true) (vw:Nat.ble (m+1) 16777216=true)
  (hk:k ((S.born d (.var e (.ag c))).put d [] (.w d 0 ((m+1:Nat):Int)))=some r) (H:KOk P ops Q rest X S β ρ k r):wpList P ops Q (o::rest) a w:=by
 obtain⟨us,q1,q2,q3,q4⟩:=Q64 h uf mj
 have yu:=Nat.eq_of_beq_eq_true kj
 have hul:us.length=m+1:=q2.trans (Nat.eq_of_beq_eq_true hl)
 have hzl':=Nat.eq_of_beq_eq_true y8
 have zy:(Uw (Qu ee.z) ((m+1)*ee.size)).length=(m+1)*ee.size:=by simp[Uw]
 have zq:=Qy2 us 0 (Uw (Qu ee.z) ((m+1)*ee.size)) (s:=ee.size) (fun v hv=>by rw[q3 v hv,yu]; rfl) (by rw[zy,QK,hul]; grind)
 rw[←q1]at zq
 have xq:Nf (Qbf ee.size) (Uw (Qu ee.z) ((m+1)*ee.size)) (ps.map (fun p=>(p.1,a.eval p.2)))=some us:=by
  rw[zq]
  simp only[XI,XM,QY,QK]
  rw[JR (by rw[zy,hul]; grind),QH,Qpm q3]
 have ka:(execOp a.eval o).run P w=.ok (.value (.slice (some ⟨w.heap.size,0,none⟩) (m+1) (m+1))) (w.alloc (.cells us.toArray e)):=by
  have hm:(Array.mk ps).map (fun(x:Nat×Operand)=>(x.1,a.eval x.2))=⟨ps.map (fun p=>(p.1,a.eval p.2))⟩:=by simp
  have xj:(underlying t).run P w=.ok (.slice e) w:=by rw[Ju hT w ku,kr]
  have ie:¬ (m+1)*ee.size>16777216:=by have:=QV vw; rw[yu]; omega
  have hf:Instr.fill (fun i=>some (i*ee.size,ee.size)) (Uw (Qu ee.z) ((m+1)*ee.size)).toArray (ps.map (fun p=>(p.1,a.eval p.2)))=some us.toArray:=Pu _ xq
  have qm:(Array.range ((m+1)*ee.size)).map (fun x=>ee.z.cells[x % ee.z.cells.size]!)=(Uw (Qu ee.z) ((m+1)*ee.size)).toArray:=by
   rw[Vk]
   unfold Uw
   apply Array.ext
   ·simp
   grind [Vk,Nat.mod_lt]
  unfold execOp
  rw[ko]
  simp only[Instr.buildSlice,Sem.run_bind,xj,J4 hT w he,Result.andThen_ok,hm]
  have wo:m+1≠0:=by omega
  have nz:ee.size≠0:=by omega
  have h02:¬ (m+1)*ee.size=0:=by rw[yu]; omega
  generalize hM:m+1=M at *
  simp[ie,wo,nz,Vx hT w he,qm,hf,newRow]
  grind
 exact Jea (x:=.w d 0 ((m+1:Nat):Int)) (cv:=fun g=>[.slice (some ⟨g,0,none⟩) (m+1) (m+1)]) hX hr h hw hd zi hb ka (c:=.ag c) q4 ye (fun β ρ ok w=>⟨_,_,rfl,fun _=>rfl⟩) hk H
theorem Qzk(hT:Q6 P Y.T){β:Nat→Nat}{G:GL}{D:List DF}{O:List TL}(h:Sb β X G D [] O a w){t:TypeId}{len:Nat}{parts:List (Nat×Operand)}{d:Nat}{ps:String}{af:Array Edge}{ty:TypeId}{gd:Option (Nat×Bool)}
  (hg:Bk ops G ⟨some d,.buildSlice t len ⟨parts⟩,ty,ps,af,gd⟩=some true) (hlt:okD X d=true)
  {τ:Type} {r:RT τ} {xs:List τ} {vs:List Value} {pvs:List (Nat×Value)} (ax:evParts G parts=some pvs)
  {e:TypeId} {te ee:TE} (ht:Qh Y.T t=some te) (kr:te.d=.slice e) (he:Qh Y.T e=some ee) (hs:ee.size=r.size) (xl:xs.length=len)
  (vw:Nat.ble (len*ee.size) 16777216=true) (ay:Nat.ble 1 ee.size=true) (fu:1≤len) (hz:Nat.beq (Qu ee.z).length ee.size=true)
  (zq:Nf (Qbf ee.size) (Uw (Qu ee.z) (len*ee.size)) pvs=some (vs.flatMap Qu))
  (hv:Qrv r (Jg X.ok X.w.heap.size β [] O w) w xs vs)
  (hk:∀b a' w',Sb β X (Se G d (.v (.slice (some ⟨b,0,none⟩) xs.length len))) D [] (ml (.slice (some ⟨b,0,none⟩) xs.length len) e r xs::O) a' w'→wpList P ops Q rest a' w') :
  wpList P ops Q (⟨some d,.buildSlice t len ⟨parts⟩,ty,ps,af,gd⟩::rest) a w:=by
 have hps1:=QV ay
 have hsm1:=QV vw
 have ka:(execOp a.eval ⟨some d,.buildSlice t len ⟨parts⟩,ty,ps,af,gd⟩).run P w=.ok (.value (.slice (some ⟨w.heap.size,0,none⟩) xs.length len)) (w.alloc (.cells (vs.flatMap Qu).toArray e)):=by
  have xm:=Qfj h ax
  have hm:(Array.mk parts).map (fun(x:Nat×Operand)=>(x.1,a.eval x.2))=⟨pvs⟩:=by rw[←xm]; simp
  have xj:(underlying t).run P w=.ok (.slice e) w:=by rw[Ju hT w ht,kr]
  have ie:¬ len*ee.size>16777216:=by omega
  have y8:=Nat.eq_of_beq_eq_true hz
  have hf:Instr.fill (fun i=>some (i*ee.size,ee.size)) (Uw (Qu ee.z) (len*ee.size)).toArray pvs=some (vs.flatMap Qu).toArray:=Pu _ zq
  have qm:(Array.range (len*ee.size)).map (fun x=>ee.z.cells[x % ee.z.cells.size]!)=(Uw (Qu ee.z) (len*ee.size)).toArray:=by
   rw[Vk]
   grind [Uw,Array.ext,Vk,Nat.mod_lt]
  unfold execOp
  simp only[Instr.buildSlice,Sem.run_bind,xj,J4 hT w he,Result.andThen_ok,hm]
  have wo:len≠0:=by omega
  have nz:ee.size≠0:=by omega
  have h0:¬ len*ee.size=0:=fun e=>by
   rcases Nat.mul_eq_zero.1 e with e | e<;>omega
  simp[ie,wo,nz,Vx hT w he,qm,hf,newRow,xl]
  grind
 refine Jr (Ka h hg) (Yr ka ?_)
 have hb:Below w.heap.size w (w.alloc (.cells (vs.flatMap Qu).toArray e)):=(Below.refl _ _).alloc (QU _) _
 have kq:Evo (Jg X.ok X.w.heap.size β [] O w) w (w.alloc (.cells (vs.flatMap Qu).toArray e)):=(Evo.of_below hb).mono fun b o hk=>hk.2.1
 obtain⟨ai,fw⟩:=Qyg hv
 have hlen:len≤len*ee.size:=XK len hps1
 refine hk _ _ _ ((h.allocTL hb (t:=ml (.slice (some ⟨w.heap.size,0,none⟩) xs.length len) e r xs) (fun g hg=>?_) ⟨rfl,vs.flatMap Qu,⟨?_,.inr ⟨w.heap.size,len,_,(0,0),rfl,QM _,heap_alloc_new w _,.inl rfl,?_,?_,?_,?_⟩⟩,?_⟩).put hlt (.v _))
 ·have hg:some w.heap.size=some g:=hg
  grind
 ·grind [K0]
 ·grind [K0]
 ·rw[I9]; omega
 ·grind
 ·grind [K0,List.take_length]
 ·refine Xp (Fd (Qow hv) kq) fun b o hk=>?_
  obtain⟨h1,h2,h3,h4⟩:=hk
  refine⟨h1,QC h2 hb.size,h3,fun u hu hc=>?_⟩
  rcases QJ.1 hu with rfl | hu
  ·have yz:some w.heap.size=some b:=hc
   grind
  ·exact h4 u hu hc
theorem Yq{d:TypeDesc}{e:TypeId}(h:Ys d=some e):d=.slice e:=by
 cases d<;>simp[Ys]at h
 subst h; rfl
end
end Gx

/- A region, operation by operation. -/
namespace Gx
open Go Go.RowKit Gd
set_option linter.unusedVariables false
set_option linter.unusedSimpArgs false
section
variable {P:Program} {Y:TX} {X:Cx} {S:XS} {β β':Nat→Nat} {ρ ρ':Nat→Value} {a a':Act} {w w':World} {n:Nat}
variable {ops:Array Oper} {Q:Exit→Act→World→Prop} {rest:List Oper} {R:Type} {k:XS→Option R} {r:R}
theorem Qth(hT:Q6 P Y.T)(hX:X.n=n)(hr:X.res=[])(h:Rel X β ρ S.flat a w){o:Oper}(hw:Region.wanted o (yielded ops a.tmps)=true)(hs:Qft Y n o S k=some r)(H:KOk P ops Q rest X S β ρ k r) :
  wpList P ops Q (o::rest) a w:=by
 unfold Qft at hs
 split at hs
 ·
  rename_i t d ko hd
  split at hs
  ·rename_i e ty he hty
   split at hs
   ·rename_i c hc
    obtain⟨hb,hk⟩:=bvT hs
    simp only[QQ]at hb
    refine Jkq (cs:=Qu e.z) hX hr h hw hd hb.1.1.1 hb.1.1.2 ?_ (I4 hc) hb.2 hk H
    unfold execOp
    simp only[ko]
    simp[Instr.alloc,Vx hT w he,newVar,newRow,Vk]
   ·cases hs
  ·cases hs
 ·
  rename_i t x d ko hd
  split at hs
  ·rename_i c hc
   obtain⟨hb,hk⟩:=bvT hs
   simp only[QQ]at hb
   obtain⟨cs,h1,h2⟩:=h.ev (Qd a) hc
   refine Jkq (cs:=cs) hX hr h hw hd hb.1.1.1.1 hb.1.1.1.2 ?_ h2 hb.2 hk H
   have xf:=Ni h2 hb.1.1.2 hb.1.2
   have yb:(c.val cs).cells=cs.toArray:=by
    grind [Array.ext',Vk]
   simp_all [execOp,Instr.box,newVar,newRow]
  ·cases hs
 ·
  rename_i t p x ko hd
  split at hs
  ·rename_i e id path v he hp hx
   split at hs
   ·rename_i tid c hm
    split at hs
    ·rename_i c' yz
     obtain⟨hb,hk⟩:=bvT hs
     simp only[QQ]at hb
     exact Q60 hT h hw ko hd he hp hx hm (fun _ h1 h2=>Sn h1 yz h2) hb.1.1 hb.1.2 hb.2 hk H
    ·cases hs
   ·cases hs
  ·rename_i e id j sz ps v he hp hx
   split at hs
   ·rename_i et u xs hm
    obtain⟨y,hy,hs⟩:=Yi hs
    split at hs
    ·rename_i c hc
     split at hs
     ·rename_i z0 hz
      obtain⟨hb,hk⟩:=bvT hs
      simp only[QQ]at hb
      grind [Q95]
     ·cases hs
    ·cases hs
   ·cases hs
  ·cases hs
 ·
  rename_i t rs d ko hd
  split at hs
  ·rename_i te ku
   split at hs
   ·rename_i kt et kr
    split at hs
    ·rename_i kk v jt hv
     obtain⟨hb,hk⟩:=bvT hs
     simp only[QQ]at hb
     have hrs:rs=none:=by
      cases rs with
      | none=>rfl
      | some x=>simp[isNone]at hb
     grind [Q94]
    ·cases hs
   ·cases hs
  ·cases hs
 ·
  rename_i t m ky x ko hd
  split at hs
  ·rename_i te id kv xv ku hm ux hx
   split at hs
   ·rename_i kt et kk v xs kr ug
    split at hs
    ·rename_i tk key y xy yf hy
     obtain⟨hb,hk⟩:=bvT hs
     simp only[QQ]at hb
     exact Qzc hT h hw ko hd ku kr xy hm ux hx ug yf hy hb.1.1 hb.1.2 hb.2 hk H
    ·cases hs
   ·cases hs
  ·cases hs
 ·
  rename_i t l c d ko hd
  split at hs
  ·rename_i te lv cv ku hl hc
   split at hs
   ·rename_i e k1 nl k2 nc zh hli hci
    split at hs
    ·rename_i ee u he hu
     split at hs
     ·rename_i za mn
      split at hs
      ·rename_i z0 hz
       obtain⟨hb,hs⟩:=bvT hs
       simp only[QQ]at hb
       obtain⟨zs,y9,hk⟩:=Yi hs
       exact Jnj hT hX hr h hw hd hb.1.1.1.1 hb.1.1.1.2 ko ku (Yq zh) he hl hc hli hci mn hz hb.1.1.2 hb.1.2 hb.2 y9 hk H
      ·cases hs
     ·cases hs
    ·cases hs
   ·cases hs
  ·cases hs
 ·
  rename_i t len parts d ko hd
  split at hs
  ·rename_i te ku
   split at hs
   ·rename_i e zh
    split at hs
    ·rename_i ee u he hu
     obtain⟨hb,hs⟩:=bvT hs
     simp only[QQ]at hb
     split at hs
     ·obtain⟨z7,hk⟩:=bvT hs
      exact Jnk hT hX hr h hw hd hb.1 z7 ko ku (Yq zh) he hb.2 hk H
     ·cases hs
     ·rename_i m
      split at hs
      ·rename_i vs uf
       split at hs
       ·rename_i xs xn
        obtain⟨z7,hk⟩:=bvT hs
        simp only[QQ]at z7
        exact Jo6 hT hX hr h hw hd hb.1 ko ku (Yq zh) he hb.2 uf xn z7.1.1.1 z7.1.1.2 z7.1.2 z7.2 hk H
       ·cases hs
      ·cases hs
    ·cases hs
   ·cases hs
  ·cases hs
 ·
  rename_i s x t t' d ko hd
  split at hs
  ·rename_i te sv xv ku ta rh
   split at hs
   ·rename_i e zh
    split at hs
    ·rename_i ee he
     have hb:=(bvT hs).1
     replace hs:=(bvT hs).2
     simp only[QQ]at hb
     obtain⟨⟨⟨⟨b1,b2⟩,b3⟩,b4⟩,b5⟩:=hb
     have ett:=Nat.eq_of_beq_eq_true b2
     subst ett
     split at hs
     ·split at hs
      ·rename_i u hu
       split at hs
       ·rename_i ys zw
        have z7:=(bvT hs).1
        replace hs:=(bvT hs).2
        simp only[QQ]at z7
        obtain⟨zs,y9,hk⟩:=Yi hs
        exact Jed hT hX hr h hw hd b1 z7.1 ko ku (Yq zh) he z7.2 b3 b4 b5 ta rh zw y9 hk H
       ·cases hs
      ·cases hs
     ·split at hs
      ·rename_i u hu
       split at hs
       ·rename_i ys zw
        have z7:=(bvT hs).1
        replace hs:=(bvT hs).2
        simp only[QQ]at z7
        obtain⟨zs,y9,hk⟩:=Yi hs
        exact Jnl hT hX hr h hw hd b1 z7.1 ko ku (Yq zh) he z7.2 b3 b4 b5 ta rh zw y9 hk H
       ·cases hs
      ·cases hs
     ·rename_i id
      split at hs
      ·rename_i e' u xs hm
       split at hs
       ·rename_i ys zw
        have z7:=(bvT hs).1
        replace hs:=(bvT hs).2
        simp only[QQ]at z7
        have ee':=Nat.eq_of_beq_eq_true z7.2
        subst ee'
        obtain⟨zs,y9,hk⟩:=Yi hs
        exact Jee hT hX hr h hw hd b1 z7.1.1 ko ku (Yq zh) he z7.1.2 b3 b4 b5 ta rh hm zw y9 hk H
       ·cases hs
      ·rename_i e' u xs hm
       split at hs
       ·rename_i ys zw
        have z7:=(bvT hs).1
        replace hs:=(bvT hs).2
        simp only[QQ]at z7
        have ee':=Nat.eq_of_beq_eq_true z7.2
        subst ee'
        obtain⟨zs,y9,hk⟩:=Yi hs
        exact Q96 hT hX hr h hw hd b1 z7.1.1 ko ku (Yq zh) he z7.1.2 b3 b4 b5 ta rh hm zw y9 hk H
       ·cases hs
      ·cases hs
     ·cases hs
    ·cases hs
   ·cases hs
  ·cases hs
 ·
  obtain⟨hb,hs⟩:=bvT hs
  obtain⟨av,hk,vp⟩:=Qy5 (P:=P) hT rfl hs
  grind [Jd9]
 ·cases hs
theorem Jei(hT:Q6 P Y.T)(hX:X.n=n)(hr:X.res=[])(h:Rel X β ρ S.flat a w){o:Oper}(hw:Region.wanted o (yielded ops a.tmps)=true)(hs:Qs5 Y n o S k=some r)(H:KOk P ops Q rest X S β ρ k r) :
  wpList P ops Q (o::rest) a w:=by
 unfold Qs5 at hs
 split at hs
 ·
  rename_i s x t t' d ko hd
  split at hs
  ·rename_i te te' sv l ku uu ta rh
   split at hs
   ·rename_i e zh
    split at hs
    ·rename_i ee he
     obtain⟨hb,hs⟩:=bvT hs
     simp only[QQ]at hb
     obtain⟨⟨⟨⟨b1,b2⟩,b3⟩,b4⟩,b5⟩:=hb
     have b2:=Q97 b2
     have b3:=Ji5 b3
     have b4:=Nat.eq_of_beq_eq_true b4
     have b5:=Nat.eq_of_beq_eq_true b5
     split at hs
     ·obtain⟨z7,hs⟩:=bvT hs
      obtain⟨zs,y9,hk⟩:=Yi hs
      exact Q99 hT hX hr h hw hd b1 z7 ko ku (Yq zh) uu b2 he b3 b4 b5 ta rh y9 hk H
     ·rename_i id
      split at hs
      ·rename_i e' xs hm
       obtain⟨z7,yo⟩:=bvT hs
       simp only[QQ]at z7
       have ee':=Nat.eq_of_beq_eq_true z7.2
       subst ee'
       obtain⟨zs,y9,hk⟩:=Yi yo
       exact Q98 hT hX hr h hw hd b1 z7.1 ko ku (Yq zh) uu b2 he b3 b4 b5 ta rh hm y9 hk H
      ·cases hs
     ·cases hs
    ·cases hs
   ·cases hs
  ·cases hs
 ·
  rename_i s t x d ko hd
  split at hs
  ·rename_i se te l zh ku hx
   split at hs
   ·rename_i e wi
    split at hs
    ·rename_i ee he
     obtain⟨hb,hs⟩:=bvT hs
     simp only[QQ]at hb
     obtain⟨zs,y9,hk⟩:=Yi hs
     exact Q4e hT hX hr h hw hd hb.1.1 hb.1.2 ko zh ku (Yq wi) he (Ji6 hb.2) hx y9 hk H
    ·cases hs
   ·cases hs
  ·cases hs
 ·
  rename_i t p x ko hd
  split at hs
  ·rename_i e id path v he hp hx
   split at hs
   ·rename_i tid c hm
    obtain⟨c',yz,wu⟩:=Qvv hs
    obtain⟨hb,hk⟩:=bvT yz
    simp only[QQ]at hb
    grind [Q60]
   ·cases hs
  ·cases hs
 ·
  rename_i dst src t t' d ko hd
  split at hs
  ·rename_i te id xv ku hdv ta
   split at hs
   ·rename_i e zh
    split at hs
    ·rename_i ee et u xs he hm
     split at hs
     ·rename_i ys zw
      obtain⟨hb,hk⟩:=bvT hs
      simp only[QQ]at hb
      exact Jnm hT hX hr h hw hd hb.1.1 ko ku (Yq zh) he hdv ta hm zw hb.1.2 hb.2 hk H
     ·cases hs
    ·cases hs
   ·cases hs
  ·cases hs
 ·
  rename_i m ky t t' ko hd
  split at hs
  ·rename_i te id kv ku hm ux
   split at hs
   ·rename_i kt et kk v xs kr ug
    split at hs
    ·rename_i tk key xy yf
     obtain⟨hb,hk⟩:=bvT hs
     simp only[QQ]at hb
     grind [Jef]
    ·cases hs
   ·cases hs
  ·cases hs
 ·
  rename_i t m ps d ko hd
  split at hs
  ·rename_i te ku
   split at hs
   ·rename_i e zh
    split at hs
    ·rename_i ee vs he uf
     split at hs
     ·rename_i c mj
      obtain⟨hb,hk⟩:=bvT hs
      simp only[QQ]at hb
      obtain⟨⟨⟨⟨⟨⟨b1,b2⟩,b3⟩,b4⟩,b5⟩,b6⟩,b7⟩:=hb
      exact Jeh hT hX hr h hw hd b1 b2 ko ku (Yq zh) he uf mj b3 b4 b5 b6 b7 hk H
     ·cases hs
    ·cases hs
   ·cases hs
  ·cases hs
 ·
  rename_i t x hi d ko hd
  split at hs
  ·rename_i te id ku hx
   split at hs
   ·rename_i e e' u xs zh hm
    split at hs
    ·rename_i ee q he hq
     obtain⟨hb,yo⟩:=bvT hs
     simp only[QQ]at hb
     have ee':=Nat.eq_of_beq_eq_true hb.2
     subst ee'
     obtain⟨ys,zw,hk⟩:=Yi yo
     exact Jeg hT hX hr h hw hd hb.1.1.1 hb.1.1.2 ko ku (Yq zh) he hb.1.2 hx hm hq zw (.inl rfl) hk H
    ·cases hs
   ·cases hs
  ·cases hs
 ·
  rename_i t x hi mx d ko hd
  split at hs
  ·rename_i te id hv mv ku hx su u9
   split at hs
   ·rename_i e e' u xs k1 q k2 m zh hm hib qq
    split at hs
    ·rename_i ee he
     obtain⟨hb,yo⟩:=bvT hs
     simp only[QQ]at hb
     have ee':=Nat.eq_of_beq_eq_true hb.2
     subst ee'
     obtain⟨_,vt,ed⟩:=Yi yo
     obtain⟨vt,_⟩:=bvT vt
     simp only[QQ,decide_eq_true_eq]at vt
     obtain⟨ys,zw,hk⟩:=Yi ed
     have hq:bnd S.flat [] xs.length (some hi)=some q:=by
      have hhi':ev S.flat [] hi=some hv:=su
      grind [bnd]
     exact Jeg hT hX hr h hw hd hb.1.1.1 hb.1.1.2 ko ku (Yq zh) he hb.1.2 hx hm hq zw (.inr ⟨hi,mx,k1,k2,m,rfl,rfl,h.toW.int (Qd a) su hib,h.toW.int (Qd a) u9 qq,vt.1,vt.2⟩) hk H
    ·cases hs
   ·cases hs
  ·cases hs
 ·cases hs
theorem Qpn(hT:Q6 P Y.T)(hX:X.n=n)(hr:X.res=[])(h:Rel X β ρ S.flat a w){o:Oper}(hw:Region.wanted o (yielded ops a.tmps)=true)(hs:Qlh Y n o S k=some r)(H:KOk P ops Q rest X S β ρ k r) :
  wpList P ops Q (o::rest) a w:=by
 grind [Qlh,Qth,Jei]
theorem Wt{o:Oper}(hg:o.guard=none)(y:Nat→Option Bool):Region.wanted o y=true:=by grind [Region.wanted]
theorem Vr{l:List Oper}{o:Oper}{t:Nat}{b:Bool}(hg:Qfr l o=some (some (t,b))):Region.wanted o (yielded ⟨l⟩ a.tmps)=true↔a.tmps[t]?=some (.bool b):=by
 unfold Qfr at hg
 split at hg
 ·cases hg
 ·rename_i j want hgd
  split at hg
  ·rename_i p hp
   split at hg
   ·rename_i t' ht
    simp at hg
    obtain⟨rfl,rfl⟩:=hg
    have xd:(Array.mk l)[j]?=some p:=by simpa using hp
    unfold Region.wanted
    rw[hgd]
    simp only[yielded,xd,QW,ht,beq_iff_eq]
    grind
   ·cases hg
  ·cases hg
theorem I5{l:List Oper}{o:Oper}(hg:Qfr l o=some none):o.guard=none:=by
 grind [Qfr]
theorem Qll{o:Oper}(hw:Region.wanted o (yielded ops a.tmps)=false)(h:wpList P ops Q rest (a.put o.dst undef) w):wpList P ops Q (o::rest) a w:=by
 simp_all [wpList,if_neg]
theorem Qzl(hX:X.n=n)(hr:X.res=[])(h:Rel X β ρ S.flat a w){o:Oper}(hw:Region.wanted o (yielded ops a.tmps)=false)(hs:Qbt n o S k=some r)(H:KOk P ops Q rest X S β ρ k r) :
  wpList P ops Q (o::rest) a w:=by
 refine Qll hw ?_
 unfold Qbt at hs
 split at hs
 ·rename_i d hd
  obtain⟨hb,hk⟩:=bvT hs
  obtain⟨h1,h2⟩:=Vb hb hX hr
  rw[hd]
  refine H β ρ _ _ _ hk (Gl S d [] _) ?_
  rw[Xi h2]
  exact h.put0 h1 (x:=.tp .nil) (c:=[.tuple #[]]) ⟨[],rfl,rfl⟩
 ·rename_i hd
  rw[hd]
  exact H β ρ _ _ _ hs (Yx.refl _ _ _) h
theorem Jej(hT:Q6 P Y.T)(hX:X.n=n)(hr:X.res=[])(h:Rel X β ρ S.flat a w){l:List Oper}{o:Oper}{t:Nat}{want:Bool}(hg:Qfr l o=some (some (t,want)))(hs:Qhm Y n t want o S k=some r)(H:KOk P ⟨l⟩ Q rest X S β ρ k r) :
  wpList P ⟨l⟩ Q (o::rest) a w:=by
 unfold Qhm at hs
 split at hs
 ·rename_i t' cs b d he hd
  obtain⟨hb,hs⟩:=bvT hs
  simp only[QQ]at hb
  obtain⟨h1,h2⟩:=Vb hb.1.1 hX hr
  have kr:=neB hb.1.2
  have hud:∀c∈cs,c.1≠d:=Qbm (by grind)
  split at hs
  ·rename_i v hv
   obtain⟨hm,k9⟩:=Uy he
   simp only at k9
   subst k9
   have xe:∀u:Value,Js (a.put (some d) u) ((t',want)::cs)↔Js a ((t',want)::cs):=by
    intro u
    have zk:∀c∈(t',want)::cs,c.1≠d:=by
     grind
    exact⟨fun hc c hm=>by rw[←Yz (zk c hm) u]; exact hc c hm,fun hc c hm=>by rw[Yz (zk c hm) u]; exact hc c hm⟩
   by_cases hw:Region.wanted o (yielded ⟨l⟩ a.tmps)=true
   ·have vf:=(Vr hg).1 hw
    have z6:Js a cs:=by
     rcases(h.en hm).2 with h3 | h3
     ·exact h3
     grind [Nj,Qbk,undef]
    have wa:Js a ((t',want)::cs):=by
     intro c hc
     rcases QJ.1 hc with rfl | hc
     ·exact vf
     ·exact z6 c hc
    obtain⟨c,h3,h4⟩:=Qhj hT h.toW wa hv
    refine Jr hw (Yr h3 ?_)
    rw[hd]
    refine H β ρ _ _ _ hs (Gl S d _ _) ?_
    rw[Xi h2]
    exact h.put h1 (fun _=>⟨c,rfl,h4⟩) (.inl ((xe _).2 wa))
   ·have qh:Region.wanted o (yielded ⟨l⟩ a.tmps)=false:=by simpa using hw
    refine Qll qh ?_
    rw[hd]
    refine H β ρ _ _ _ hs (Gl S d _ _) ?_
    rw[Xi h2]
    refine h.put h1 (fun hc=>?_) (.inr rfl)
    have:=(xe _).1 hc
    exact absurd ((Vr hg).2 (this _ (.head _))) hw
  ·cases hs
 ·cases hs
theorem Jek(hT:Q6 P Y.T)(hX:X.n=n)(hr:X.res=[]){l:List Oper}(h:Rel X β ρ S.flat a w){o:Oper}(hs:Qhn Y n l o S k=some r)(H:KOk P ⟨l⟩ Q rest X S β ρ k r):wpList P ⟨l⟩ Q (o::rest) a w:=by
 grind [Qhn,Qpn,Wt,I5,Jej]
theorem Jel(hT:Q6 P Y.T)(hX:X.n=n)(hr:X.res=[]){l:List Oper}(h:Rel X β ρ S.flat a w){o:Oper}(hs:Gx.stepL Y n l o S k=some r)(H:KOk P ⟨l⟩ Q rest X S β ρ k r):wpList P ⟨l⟩ Q (o::rest) a w:=by
 unfold Gx.stepL at hs
 split at hs
 ·grind [Qpn,Wt,I5]
 ·rename_i t want hg
  split at hs
  ·rename_i t' b he
   obtain⟨cs,h1,h2⟩:=h.get he (Qd a)
   have zb:cs=_:=h2
   subst zb
   have k8:a.tmps[t]?=some (.bool b):=h1
   split at hs
   ·grind [Qpn,Vr]
   ·rename_i hb
    refine Qzl hX hr h ?_ hs H
    have zk:b≠want:=by simpa using hb
    cases hw:Region.wanted o (yielded ⟨l⟩ a.tmps)with
    | false=>rfl
    | true =>
     have:=(Vr hg).1 hw
     rw[k8]at this
     grind
  ·rename_i t' he
   obtain⟨cs,h1,vs,h2,h3⟩:=h.get he (Qd a)
   subst h2
   refine Qzl hX hr h ?_ hs H
   cases hw:Region.wanted o (yielded ⟨l⟩ a.tmps)with
   | false=>rfl
   | true =>
    have:=(Vr hg).1 hw
    rw[h1]at this
    injection this with this
    cases this
  ·cases hs
 ·cases hs
theorem Qv7{l:List Oper}(st:Oper→XS→(XS→Option R)→Option R)
  (zj:∀{o:Oper} {rest:List Oper} {S:XS} {β:Nat→Nat} {ρ:Nat→Value} {a:Act} {w:World} {k:XS→Option R},Rel X β ρ S.flat a w→st o S k=some r→KOk P ⟨l⟩ Q rest X S β ρ k r→wpList P ⟨l⟩ Q (o::rest) a w) :
  ∀{l1 rest:List Oper} {S:XS} {β:Nat→Nat} {ρ:Nat→Value} {a:Act} {w:World} {k:XS→Option R},Rel X β ρ S.flat a w→Qmi st l1 S k=some r→KOk P ⟨l⟩ Q rest X S β ρ k r→wpList P ⟨l⟩ Q (l1++rest) a w
 | [],rest,S,β,ρ,a,w,k,h,hs,H=>H β ρ S a w hs (Yx.refl _ _ _) h
 | o::l1,rest,S,β,ρ,a,w,k,h,hs,H=>by
  simp only[Qmi]at hs
  refine zj (rest:=l1++rest) h hs fun β' ρ' S' a' w' hk xe h'=>?_
  exact Qv7 st zj h' hk (H.after xe)
end
end Gx

/- A map's entry that is made first and written then. -/
namespace Gx
open Go Go.RowKit Gd
set_option linter.unusedVariables false
set_option linter.unusedSimpArgs false
section
variable {P:Program} {T:Tab}
end
section
variable {P:Program} {Y:TX} {X:Cx} {S:XS} {β β':Nat→Nat} {ρ ρ':Nat→Value} {a a':Act} {w w':World} {n:Nat}
variable {ops:Array Oper} {Q:Exit→Act→World→Prop} {rest:List Oper} {R:Type} {k:XS→Option R} {r:R}
end
end Gx
