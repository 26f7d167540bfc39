/- Steps that make slices. -/
import Derived.Test.YtjjpjagokgfbdaaGreatXJ
namespace Gx
open Go Go.RowKit Gd
set_option linter.unusedVariables false
set_option linter.unusedSimpArgs false
section
variable {P:Program} {Y:TX} {X:Cx} {S:XS} {β β':Nat→Nat} {ρ ρ':Nat→Value} {a a':Act} {w w':World} {n:Nat}
variable {ops:Array Oper} {Q:Exit→Act→World→Prop} {rest:List Oper} {R:Type} {k:XS→Option R} {r:R}
theorem Jz(d:Nat)(β:Nat→Nat)(ρ:Nat→Value)(v:Value):Qfu d β β ρ (upd ρ d v):=fun i h=>⟨rfl,Zo _ _ h⟩
theorem Qqg(d:Nat):∀l:List En,Jr (Jr l d) d=Jr l d
 | []=>rfl
 | x::l=>by
  simp only[Jr]
  cases hb:(Nat.beq x.t d||Rn d x.cs)with
  | true=>simpa using Qqg d l
  | false=>simp only[cond_false,Jr,hb,Qqg d l]
theorem Zw{M:List (Nat×Ob)}(hX:X.n=n)(hr:X.res=[])(hsz:a.tmps.size=X.n){d:Nat}(hwd:okW n S d=true)(hF:Js d M=true)(hI:Qcn d S.fix=true)(hp:Ya S.prot d=false){v:Value}{o:Ob}{T':TL}
  (hS:Sb (fun _=>0) X (Tj (Qij X.n a) d (.v v)) ((S.env++S.fix).map (enD β ρ a)) [] (T'::Qf β ρ M) a' w') (hT:X7 T' (Qw β (upd ρ d v) d o)) (hv:∃A m c,v=.slice A m c) :
  Rel X β (upd ρ d v) ⟨⟨d,[],.s d⟩::(Jr (Yu d S.env) d++S.fix),(d,o)::M⟩ a' w':=by
 obtain⟨h1,h2⟩:=Yx hwd hX hr
 have ha:=Jz d β ρ v
 refine Rel.fin (β':=β) (ρ':=upd ρ d v) (mem':=(d,o)::M) (fun _ _=>trivial) hS hsz h1 (.cons hT (N6 ha hF)) (fun e he ok w cs hc=>?_) (fun e he=>?_) (x:=.s d) (c:=[v]) rfl ?_
 ·exact Gw ha (C7 hI h2 e he).2.1 hc
 ·obtain⟨q1,_,q3,q4⟩:=C7 hI h2 e he
  exact⟨q1,q3,q4⟩
 ·refine⟨⟨_,rfl,.inl (by rw[Jc])⟩,?_⟩
  rw[Jc]; exact hv
theorem Cc(o:Oper):o=⟨o.dst,o.op,o.type,o.pos,o.after,o.guard⟩:=by cases o; rfl
theorem Rel.dropM{S:St}(h:Rel X β ρ S a w){id:Nat}{o:Ob}(hm:Qe S.mem id=some o):Rel X β ρ ⟨S.env,Ju S.mem id⟩ a w:=by
 obtain⟨l1,l2,e1,_,e3⟩:=Ji hm
 have hsub:(Qf β ρ (l1++l2)).Sublist (Qf β ρ S.mem):=by
  rw[e1]
  refine List.Sublist.map _ ?_
  exact List.Sublist.append_left (List.sublist_cons_self _ _) _
 unfold Rel at h ⊢
 show Sb _ _ _ _ _ (Qf β ρ (Ju S.mem id)) _ _
 rw[e3]
 exact Sb.remake h (fun t' ht'=>.inl ⟨t',hsub.subset ht',fun _ hg=>hg,fun _ _ hc=>hc,(h.own t' (hsub.subset ht')).1⟩) (h.dOO.sublist hsub)
theorem Jpb(hT:Q4 P Y.T)(hX:X.n=n)(hr:X.res=[])(h:Rel X β ρ S.flat a w){o:Oper}(hw:Region.wanted o (yielded ops a.tmps)=true){d:Nat}(hd:o.dst=some d)(hwd:okW n S d=true)(hb:okB S d=true)
  {t:TypeId} {l c:Operand} (hop:o.op=.makeSlice t l c) {te ee:TE} {e:TypeId} (hte:Qh Y.T t=some te) (htd:te.d=.slice e) (he:Qh Y.T e=some ee) {lv cv:AV} (hl:S.ev [] l=some lv) (hc:S.ev [] c=some cv)
  {k1 k2:IntKind} {nl nc:Int} (hli:Xo lv=some (k1,nl)) (hci:Xo cv=some (k2,nc)) {u:Ty} {za:AV} {z:u.De} (hza:L2 u ee.z=some za) (hz:asD [] za u=some z) (hsz:Nat.beq ee.size u.size=true)
  (hzl:Nat.beq (Qu ee.z).length ee.size=true) (hby:Nat.ble 1 ee.bytes=true) {zs:List u.De} (hmk:mkL ee.bytes nl nc z=some zs)
  (hk:k ((S.born d (.row e u zs)).put d [] (.s d))=some r) (H:KOk P ops Q rest X S β ρ k r):wpList P ops Q (o::rest) a w:=by
 obtain⟨f1,f2,f3⟩:=Ga hb
 obtain⟨h1,h2⟩:=Yx hwd hX hr
 have hg:=L6 h hw
 rw[Cc o,hd,hop]at hg ⊢
 refine Jat hT h.toG (r:=rt u) hg h1 hte htd he (by rw[Jh]; exact QJ hsz) hzl hby (fun ok w=>Z4 (β:=β) (ρ:=ρ) (M:=[]) (by simp[Qe]) hz (B9 hza))
  (by rw[gvE h (Qc a) hl,h.int (Qc a) hl hli]) (by rw[gvE h (Qc a) hc,h.int (Qc a) hc hci]) hmk fun b a' w' hS=>?_
 refine H β (upd ρ d (.slice (some ⟨b,0,none⟩) zs.length nc.toNat)) _ _ _ hk (U3 f3 (Jz d β ρ _) _ _ _) ?_
 have:=Zw (o:=.row e u zs) hX hr h.sz hwd f1 f2 f3 hS (by simp only[Qw,Jc]; exact X7.refl _) ⟨_,_,_,rfl⟩
 exact this
theorem Jpc(hT:Q4 P Y.T)(hX:X.n=n)(hr:X.res=[])(h:Rel X β ρ S.flat a w){o:Oper}(hw:Region.wanted o (yielded ops a.tmps)=true){d:Nat}(hd:o.dst=some d)(hwd:okW n S d=true)(hb:okB S d=true)
  {t:TypeId} (hop:o.op=.buildSlice t 0 ⟨[]⟩) {te ee:TE} {e:TypeId} (hte:Qh Y.T t=some te) (htd:te.d=.slice e) (he:Qh Y.T e=some ee) {u:Ty} (hsz:Nat.beq ee.size u.size=true)
  (hk:k ((S.born d (.row e u [])).put d [] (.s d))=some r) (H:KOk P ops Q rest X S β ρ k r):wpList P ops Q (o::rest) a w:=by
 obtain⟨f1,f2,f3⟩:=Ga hb
 obtain⟨h1,h2⟩:=Yx hwd hX hr
 have hg:=L6 h hw
 rw[Cc o,hd,hop]at hg ⊢
 refine Qpi hT h.toG (r:=rt u) hg h1 hte htd he fun b a' w' _ hS=>?_
 refine H β (upd ρ d (.slice (some ⟨b,0,none⟩) (List.length ([]:List u.De)) 0)) _ _ _ hk (U3 f3 (Jz d β ρ _) _ _ _) ?_
 have e1:ee.size=(rt u).size:=by rw[Jh]; exact QJ hsz
 rw[e1]at hS
 have:=Zw (o:=.row e u []) hX hr h.sz hwd f1 f2 f3 (hS.melt0) (by simp only[Qw,Jc]; exact X7.refl _) ⟨_,_,_,rfl⟩
 exact this
theorem Qxb(h:Rel X β ρ S.flat a w){u:Ty}:∀{ps:List (Nat×Operand)} {vs:List (Nat×AV)} {xs:List u.De} {j:Nat},Y6 S.flat [] ps=some vs→asLs S.flat.mem u vs j=some xs →
  ∃us:List Value,ps.map (fun p=>(p.1,a.eval p.2))=(List.range' j us.length).zip us∧Qsu (rt u) (okR X β ρ S.flat.mem w) w xs us∧us.length=xs.length∧evParts (Qij X.n a) ps=some (ps.map (fun p=>(p.1,a.eval p.2)))
 | [],vs,xs,j,he,hx=>by
  simp[Y6]at he; subst he
  simp[asLs]at hx; subst hx
  exact⟨[],rfl,trivial,rfl,rfl⟩
 | (i,x)::ps,vs,xs,j,he,hx=>by
  simp only[Y6]at he
  split at he
  ·rename_i v l hv hl
   simp at he; subst he
   simp only[asLs]at hx
   obtain⟨hb,hx⟩:=bvT hx
   simp only[QQ]at hb
   have:=QJ hb.1
   subst this
   split at hx
   ·rename_i y ys hy hys
    simp at hx; subst hx
    obtain⟨us,q1,q2,q3,q4⟩:=Qxb h (u:=u) (ps:=ps) hl hys
    have hiv:=h.asD (Qc a) hv hy (bEq hb.2)
    refine⟨a.eval x::us,?_,⟨hiv,q2⟩,by simp[q3],?_⟩
    ·simp only[JV,JI,KB,ZI,q1]
    ·simp only[evParts,gvE h (Qc a) hv,q4,JV]
   ·cases hx
  ·cases he
theorem Jqt(hT:Q4 P Y.T)(hX:X.n=n)(hr:X.res=[])(h:Rel X β ρ S.flat a w){o:Oper}(hw:Region.wanted o (yielded ops a.tmps)=true){d:Nat}(hd:o.dst=some d)(hwd:okW n S d=true)
  {t:TypeId} {m:Nat} {ps:List (Nat×Operand)} (hop:o.op=.buildSlice t (m+1) ⟨ps⟩) {te ee:TE} {e:TypeId} (hte:Qh Y.T t=some te) (htd:te.d=.slice e) (he:Qh Y.T e=some ee) {u:Ty} (hsz:Nat.beq ee.size u.size=true)
  {vs:List (Nat×AV)} {xs:List u.De} (hvs:Y6 S.flat [] ps=some vs) (hxs:asLs S.flat.mem u vs 0=some xs) (hl:Nat.beq xs.length (m+1)=true) (hsm:Nat.ble ((m+1)*ee.size) 16777216=true) (hpos:Nat.ble 1 ee.size=true)
  (hzl:Nat.beq (Qu ee.z).length ee.size=true) (hk:k (S.put d [] (.d (.sl u) xs))=some r) (H:KOk P ops Q rest X S β ρ k r):wpList P ops Q (o::rest) a w:=by
 obtain⟨h1,h2⟩:=Yx hwd hX hr
 have hg:=L6 h hw
 obtain⟨us,q1,q2,q3,q4⟩:=Qxb h hvs hxs
 have hes:=QJ hsz
 have hxl:=QJ hl
 have hcl:∀v∈us,(Qu v).length=ee.size:=by
  have key:∀{xs:List u.De} {us:List Value},Qsu (rt u) (okR X β ρ S.flat.mem w) w xs us→∀v∈us,(Qu v).length=ee.size:=by
   intro xs
   induction xs with
   | nil=>intro us hu v hv; cases us with
    | nil=>cases hv
    | cons _ _=>cases hu
   | cons x xs ih =>
    intro us hu v hv
    cases us with
    | nil=>cases hv
    | cons y us =>
     rcases QX.1 hv with rfl | hv
     ·rw[(rt u).len (B5 hu.1),Jh,hes]
     ·exact ih hu.2 v hv
  exact key q2
 have hz0:(Uz (Qu ee.z) ((m+1)*ee.size)).length=(m+1)*ee.size:=by simp[Uz]
 have hfill:=Q0e us 0 (Uz (Qu ee.z) ((m+1)*ee.size)) hcl (by rw[hz0,QE,q3,hxl]; exact QB _)
 rw[←q1]at hfill
 have hfill':Nz (Qcd ee.size) (Uz (Qu ee.z) ((m+1)*ee.size)) (ps.map (fun p=>(p.1,a.eval p.2)))=some (us.flatMap Qu):=by
  rw[hfill]
  simp only[XB,ZA,QD,QE]
  rw[XN (by rw[hz0,q3,hxl]; exact QB _),QR]
 rw[Cc o,hd,hop]at hg ⊢
 refine Qm6 hT h.toG (r:=rt u) hg h1 q4 hte htd he (by rw[Jh]; exact hes) hxl hsm (XT (by have:=QF hpos; have:=Nat.mul_le_mul (Nat.le_add_left 1 m) this; omega)) hzl hfill' q2 fun A c a' w' hv hS=>?_
 refine H β ρ _ _ _ hk (Gy S d [] _) ?_
 have hfin:=Rel.fin (β':=β) (ρ':=ρ) (env:=S.env++S.fix) (env':=Jr S.env d++S.fix) (mem':=S.mem++S.fixM) (fun _ _=>trivial) hS h.sz h1 (K9.refl _) (fun e he ok w cs hc=>hc) (fun e he=>by
  rcases QW.1 he with he | he
  ·obtain⟨p1,p2,p3⟩:=Fv he
   exact⟨QZ _ p1,p2,p3⟩
  ·obtain⟨p1,p2⟩:=Qcp h2 e he
   exact⟨QV _ he,p1,p2⟩) (x:=.d (.sl u) xs) (c:=[.slice A xs.length c]) rfl ⟨_,rfl,Z3.1 hv⟩
 exact hfin
theorem slV(h:Rel X β ρ S.flat a w){x:Operand}{xv:AV}{u:Ty}{ys:List u.De}(hx:S.ev [] x=some xv)(hy:asD S.flat.mem xv (.sl u)=some ys) :
  ∃A m c,a.eval x=.slice A m c∧isV (rSl (rt u)) (okR X β ρ S.flat.mem w) w ys (.slice A m c):=by
 have hag:(Ty.sl u).agg=xv.isAgg:=by
  cases xv with
  | d t' y'=>obtain⟨rfl,_⟩:=Ty.cast_ok (by simpa only[asD]using hy); rfl
  | ag l=>simp[asD]at hy
  | _=>rfl
 have hiv:=h.asD (Qc a) hx hy hag
 obtain⟨A,c,hev,h1⟩:=Qjt (r:=rt u) hiv
 exact⟨A,_,c,hev,h1⟩
theorem slR(h:Rel X β ρ S.flat a w){x:Operand}{xv:AV}{u:Ty}{ys:List u.De}(hx:S.ev [] x=some xv)(hy:asR S.flat.mem xv u=some ys) :
  ∃A m c,a.eval x=.slice A m c∧Qzv (rt u) (okR X β ρ S.flat.mem w) w ys A m c:=by
 unfold asR at hy
 split at hy
 ·rename_i ys' hy'
  injection hy with hy; subst hy
  obtain⟨A,m,c,h1,h2⟩:=slV h hx hy'
  exact⟨A,m,c,h1,Q7v h2⟩
 ·split at hy
  ·rename_i id hno
   split at hy
   ·rename_i e t zs ho
    obtain⟨he,hz⟩:=Ty.cast_ok hy
    injection he with he
    subst he
    obtain⟨c1,h1,⟨v,rfl,hz0⟩,A,m,c,hρ⟩:=h.ev (Qc a) hx
    have hp:=(h.ob ho).1
    have hp':(ml (ρ id) e (rt t) zs).p (okR X β ρ S.flat.mem w) w:=hp
    rw[hρ]at hp'
    have hz':zs=ys:=hz.symm
    subst hz'
    rcases hz0 with hz0 | ⟨h00,A0,hz0⟩
    ·exact⟨A,m,c,by rw[h1,←hρ,←hz0]; rfl,Je1 hp'⟩
    ·refine⟨A0,0,0,by rw[h1,←hz0]; rfl,?_⟩
     have hl:Zt (ρ id)=zs.length:=hp.1
     rw[h00]at hl
     have:zs=[]:=XX.1 hl.symm
     subst this
     exact⟨[],by simp,rfl,QB _,fun _=>rfl,by simp,fun h=>absurd h (by omega),by simp⟩
   ·cases hy
  ·cases hy
theorem Jf2(hT:Q4 P Y.T)(hX:X.n=n)(hr:X.res=[])(h:Rel X β ρ S.flat a w){o:Oper}(hw:Region.wanted o (yielded ops a.tmps)=true){d:Nat}(hd:o.dst=some d)(hwd:okW n S d=true)(hb:okB S d=true)
  {t:TypeId} {s x:Operand} (hop:o.op=.call ⟨.builtin .append,⟨[s,x]⟩,⟨[t,t]⟩⟩) {te ee:TE} {e:TypeId} (hte:Qh Y.T t=some te) (htd:te.d=.slice e) (he:Qh Y.T e=some ee) {u:Ty} (hsz:Nat.beq ee.size u.size=true)
  (hpos:Nat.ble 1 ee.size=true) (hby:Nat.ble 1 ee.bytes=true) (hzl:Nat.beq (Qu ee.z).length ee.size=true) {xv:AV} (hs:S.ev [] s=some .ns) (hx:S.ev [] x=some xv) {ys zs:List u.De} (hy:asR S.flat.mem xv u=some ys)
  (happ:app ee.bytes [] ys=some zs) (hk:k ((S.born d (.row e u zs)).put d [] (.s d))=some r) (H:KOk P ops Q rest X S β ρ k r):wpList P ops Q (o::rest) a w:=by
 obtain⟨f1,f2,f3⟩:=Ga hb
 obtain⟨h1,h2⟩:=Yx hwd hX hr
 have hg:=L6 h hw
 obtain⟨A2,m2,c2,hxe,hyv⟩:=slR h hx hy
 obtain⟨c1,hse,hs2⟩:=h.ev (Qc a) hs
 have hs2':c1=_:=hs2
 subst hs2'
 have hse':a.eval s=.slice none 0 0:=hse
 have hnil:Sb (fun _=>0) X (Qij X.n a) (S.flat.env.map (enD β ρ a)) [] (ml (.slice none 0 0) e (rt u) []::Qf β ρ S.flat.mem) a w:=Sb.addNilM h.toG e (rt u)
 have hok:∀b o,okR X β ρ S.flat.mem w b o→Je X.ok X.w.heap.size (fun _=>0) [] (ml (.slice none 0 0) e (rt u) []::Qf β ρ S.flat.mem) w b o:=by
  rintro b o ⟨o1,o2,o3,o4⟩
  refine⟨o1,o2,o3,fun t ht hc=>?_⟩
  rcases QX.1 ht with rfl | ht
  ·cases hc
  ·exact o4 t ht hc
 rw[Cc o,hd,hop]at hg ⊢
 refine Qhz hT hnil [] (Qf β ρ S.flat.mem) (r:=rt u) hg h1 hte htd he (by rw[Jh]; exact QJ hsz) hzl hpos hby rfl (by rw[gvE h (Qc a) hs,hse']) (by rw[gvE h (Qc a) hx,hxe]) (hyv.weak hok) happ fun A' c' a' w' hS=>?_
 refine H β (upd ρ d (.slice A' zs.length c')) _ _ _ hk (U3 f3 (Jz d β ρ _) _ _ _) ?_
 exact Zw (o:=.row e u zs) hX hr h.sz hwd f1 f2 f3 hS (by simp only[Qw,Jc]; exact X7.refl _) ⟨_,_,_,rfl⟩
theorem K2{l m:List (Nat×Ob)}{id:Nat}{o:Ob}(h:Qe l id=some o):Ju (l++m) id=Ju l id++m:=by
 induction l with
 | nil=>simp[Qe]at h
 | cons q l ih =>
  simp only[Qe]at h
  simp only[Ju,QA]
  cases hb:Nat.beq q.1 id with
  | true=>rfl
  | false=>rw[hb]at h; simp only[cond_false,QA,ih h]
theorem Tv{T:Tab}{G:GL}{D:List DF}{H:HL}{O:List TL}(hT:Q4 P T)(h:Sb β X G D H O a w){t:TypeId}{s x:Operand}{d:Nat}{ps:String}{af:Array Edge}{ty:TypeId}{gd:Option (Nat×Bool)}
  (hg:B3 ops G ⟨some d,.call ⟨.builtin .append,⟨[s,x]⟩,⟨[t,t]⟩⟩,ty,ps,af,gd⟩=some true) (hlt:okD X d=true)
  {τ:Type} {r:RT τ} {ys zs:List τ} {A A2:Option Addr} {m2 c2:Nat} {e:TypeId} {te ee:TE} (ht:Qh T t=some te) (htd:te.d=.slice e) (he:Qh T e=some ee) (hs:ee.size=r.size)
  (hz:Nat.beq (Qu ee.z).length ee.size=true) (hsz:Nat.ble 1 ee.size=true) (hby:Nat.ble 1 ee.bytes=true)
  (hs1:gv G s=some (.v (.slice A 0 0))) (hx1:gv G x=some (.v (.slice A2 m2 c2)))
  (hDy:Qzv r (Je X.ok X.w.heap.size β H O w) w ys A2 m2 c2) (happ:app ee.bytes ([]:List τ) ys=some zs)
  (hk1:zs=[]→∀a',Sb β X (Tj G d (.v (.slice A 0 0))) D H O a' w→wpList P ops Q rest a' w)
  (hk2:∀A' c' a' w',Sb β X (Tj G d (.v (.slice A' zs.length c'))) D H (ml (.slice A' zs.length c') e r zs::O) a' w'→wpList P ops Q rest a' w') :
  wpList P ops Q (⟨some d,.call ⟨.builtin .append,⟨[s,x]⟩,⟨[t,t]⟩⟩,ty,ps,af,gd⟩::rest) a w:=by
 obtain⟨hbytes,hzs⟩:=Qju happ
 simp only[QD,JO,QE]at hbytes hzs
 subst hzs
 have h0:=Sb.addNilM h e r
 have hokn:∀b o,Je X.ok X.w.heap.size β H O w b o→Je X.ok X.w.heap.size β H (ml (.slice none 0 0) e r []::O) w b o:=by
  rintro b o ⟨o1,o2,o3,o4⟩
  refine⟨o1,o2,o3,fun t ht hc=>?_⟩
  rcases QX.1 ht with rfl | ht
  ·cases hc
  ·exact o4 t ht hc
 obtain⟨csy,hcy1,hyl,hmc2,hA2,hcy2,hcy3,hcy4⟩:=hDy.weak hokn
 have hzl:=QJ hz
 have hsz':0<ee.size:=QF hsz
 have hby':0<ee.bytes:=QF hby
 have hu:P.underlying t=some (.slice e):=by rw[(Jl hT ht).2,htd]
 obtain⟨i,hi,hz',hsi,hbi⟩:=W0 hT he
 have hm2b:zs.length≤140737488355328:=QN (KJ _ hby') hbytes
 have hm:(Array.mk [s,x]).map a.eval=⟨[.slice A 0 0,.slice A2 m2 c2]⟩:=by simp[h.ev hs1,h.ev hx1,Iq]
 have hexec:∀v' w1,(Builtin.append_ ⟨[t,t]⟩ ty ⟨[.slice A 0 0,.slice A2 m2 c2]⟩).run P w=.ok v' w1→(execOp a.eval ⟨some d,.call ⟨.builtin .append,⟨[s,x]⟩,⟨[t,t]⟩⟩,ty,ps,af,gd⟩).run P w=.ok (.value v') w1:=by
  intro v' w1 hr
  unfold execOp
  simp[resolve,hm,invoke,builtin,hr]
 rcases XQ m2 with h0' | h0'
 ·subst h0'
  have hx:zs=[]:=JJ hyl
  have hrun:(Builtin.append_ ⟨[t,t]⟩ ty ⟨[.slice A 0 0,.slice A2 0 c2]⟩).run P w=.ok (.slice A 0 0) w:=by
   cases A<;>cases A2<;>simp[Builtin.append_,run_underlying hu,Go.sizeOf,typeInfo,hi,Builtin.lenOf,Builtin.firstCells,loadCells,loadCellsFrom,storeCells]
  refine Jk (Kh h hg) (Yn (hexec _ _ hrun) ?_)
  exact hk1 hx _ (h.put hlt (.v _))
 ·obtain⟨b,o,rfl,hc⟩:=hcy3 h0'
  have hnews:∀j u,csy[j]?=some u→w.cell? ((⟨b,o,none⟩:Addr).add j)=some u:=fun j u hu=>by rw[Hw]; exact hc j u hu
  have hone:(Builtin.append_ ⟨[t,t]⟩ ty ⟨[.slice A 0 0,.slice (some ⟨b,o,none⟩) m2 c2]⟩).run P w=(Builtin.append_ ⟨[t,t]⟩ ty ⟨[.slice none 0 0,.slice (some ⟨b,o,none⟩) m2 c2]⟩).run P w:=by
   have hn:=run_append_nil (P:=P) w t ty e i ee.z hu hi hz' (⟨b,o,none⟩) m2 c2 csy (by rw[hsi,hs]; exact hcy1) hnews h0' (by omega) (by rw[hbi,←hyl]; omega)
   cases A with
   | none=>rfl
   | some ad =>
    have:=run_append_grow (P:=P) w t ty e i ee.z hu hi hz' ad 0 0 [] (by simp) (by simp) ⟨b,o,none⟩ m2 c2 csy (by rw[hsi,hs]; exact hcy1) hnews (by omega) (by omega) (growslice_fits (by omega) (by rw[hbi,QE,←hyl]; exact hbytes))
    have hh:(Builtin.append_ #[t,t] ty #[.slice (some ad) 0 0,.slice (some ⟨b,o,none⟩) m2 c2]).run P w=(Builtin.append_ #[t,t] ty #[.slice none 0 0,.slice (some ⟨b,o,none⟩) m2 c2]).run P w:=by
     rw[this,hn]; simp
    exact hh
  obtain⟨v',w1,hrun,hown',hgrow,hblk⟩:=Qgd (P:=P) (w:=w) (ty:=ty) hT ht htd he hzl hsz' hby' (World.ownsRowS_nil w 0 e ee.size) (JB _) (k:=m2) (c:=c2) (A:=some ⟨b,o,none⟩) (news:=csy) (by rw[hs]; exact hcy1) hA2 (fun ad had=>by injection had with had; subst had; exact hnews) hcy2 (by rw[←hyl,QE]; exact hbytes)
  refine Jk (Kh h hg) (Yn (hexec _ _ (hone.trans hrun)) ?_)
  have hform:∃A' c',v'=.slice A' (0+m2) c':=by
   rcases hown'.2 with⟨rfl,h0⟩ | ⟨g,cap,cur,fz,rfl,_⟩
   ·exact⟨none,0,by rw[h0]⟩
   ·exact⟨_,cap,rfl⟩
  obtain⟨A',c',rfl⟩:=hform
  rw[QE]at hown'
  rw[QE]at hblk
  have hS:Sb β X G D H (ml (.slice A' m2 c') e r zs::O) a w1:=by
   refine h0.upd (O1:=[]) rfl hgrow.os hgrow.tape hgrow.output hgrow.size (fun b hb hn=>hgrow.block b hb fun e=>hn e.symm) (fun b o hb=>hb) (fun g hg=>?_) fun hevo hok=>?_
   ·rcases hblk with he1 | ⟨he1,_⟩
    ·exact .inl (by have hg:(Value.slice A' m2 c').ownBlock=some g:=hg; rw[he1]at hg; exact hg)
    ·have hg:(Value.slice A' m2 c').ownBlock=some g:=hg
     rw[he1]at hg; injection hg with hg; exact .inr (by omega)
   ·refine⟨hyl.symm,csy,by rw[←hs]; exact hown',Xy (Ft ?_ hevo) hok⟩
    exact Qhy zs csy (by rw[hcy1,hyl]) hcy4
  have:=hk2 A' c' (a.put (some d) (.slice A' m2 c')) w1
  rw[hyl]at this
  rw[QE]
  exact this (hS.put hlt (.v _))
theorem Qqh{M:List (Nat×Ob)}(hX:X.n=n)(hr:X.res=[])(hsz:a.tmps.size=X.n){d:Nat}(hwd:okW n S d=true)(hF:Js d M=true)(hI:Qcn d S.fix=true)(hp:Ya S.prot d=false){A:Option Addr}{e:TypeId}{u:Ty}
  (hS:Sb (fun _=>0) X (Tj (Qij X.n a) d (.v (.slice A 0 0))) ((S.env++S.fix).map (enD β ρ a)) [] (Qf β ρ M) a' w') :
  Rel X β (upd ρ d (.slice none 0 0)) ⟨⟨d,[],.s d⟩::(Jr (Yu d S.env) d++S.fix),(d,.row e u [])::M⟩ a' w':=by
 obtain⟨h1,h2⟩:=Yx hwd hX hr
 have ha:=Jz d β ρ (.slice none 0 0)
 refine Rel.fin (β':=β) (ρ':=upd ρ d (.slice none 0 0)) (mem':=(d,.row e u [])::M) (fun _ _=>trivial) (Sb.addNilM hS e (rt u)) hsz h1 (.cons (by simp only[Qw,Jc]; exact X7.refl _) (N6 ha hF)) (fun e he ok w cs hc=>?_) (fun e he=>?_) (x:=.s d) (c:=[.slice A 0 0]) rfl ?_
 ·exact Gw ha (C7 hI h2 e he).2.1 hc
 ·obtain⟨q1,_,q3,q4⟩:=C7 hI h2 e he
  exact⟨q1,q3,q4⟩
 ·refine⟨⟨_,rfl,.inr ⟨by rw[Jc],A,rfl⟩⟩,?_⟩
  rw[Jc]; exact⟨_,_,_,rfl⟩
theorem Jf3(hT:Q4 P Y.T)(hX:X.n=n)(hr:X.res=[])(h:Rel X β ρ S.flat a w){o:Oper}(hw:Region.wanted o (yielded ops a.tmps)=true){d:Nat}(hd:o.dst=some d)(hwd:okW n S d=true){id:Nat}
  (hb:okB ⟨S.env,S.fix,Ju S.mem id,S.fixM,S.prot⟩ d=true)
  {t:TypeId} {s x:Operand} (hop:o.op=.call ⟨.builtin .append,⟨[s,x]⟩,⟨[t,t]⟩⟩) {te ee:TE} {e:TypeId} (hte:Qh Y.T t=some te) (htd:te.d=.slice e) (he:Qh Y.T e=some ee) {u:Ty} (hsz:Nat.beq ee.size u.size=true)
  (hpos:Nat.ble 1 ee.size=true) (hby:Nat.ble 1 ee.bytes=true) (hzl:Nat.beq (Qu ee.z).length ee.size=true) {xv:AV} (hs:S.ev [] s=some (.s id)) (hx:S.ev [] x=some xv) {xs ys zs:List u.De} (hm:Qe S.mem id=some (.row e u xs)) (hy:asR S.flat.mem xv u=some ys)
  (happ:app ee.bytes xs ys=some zs) (hk:k (({ S with mem:=Ju S.mem id }.born d (.row e u zs)).put d [] (.s d))=some r) (H:KOk P ops Q rest X S β ρ k r):wpList P ops Q (o::rest) a w:=by
 obtain⟨f1,f2,f3⟩:=Ga hb
 obtain⟨h1,h2⟩:=Yx hwd hX hr
 have hg:=L6 h hw
 obtain⟨A2,m2,c2,hxe,hyv⟩:=slR h hx hy
 obtain⟨c1,hse,⟨v0,hs2,hz0⟩,A,m,c,hρ⟩:=h.ev (Qc a) hs
 subst hs2
 have hm':Qe S.flat.mem id=some (.row e u xs):=Q0 hm
 have e4':Ju S.mem id++S.fixM=Ju S.flat.mem id:=(K2 hm).symm
 rcases hz0 with hz0 | ⟨h00,A0,hz0⟩
 case inr =>
  have hse':a.eval s=.slice A0 0 0:=by rw[hse,←hz0]; rfl
  have hxs:xs=[]:=by
   have:=(h.ob hm').1.1
   rw[h00]at this
   exact XX.1 this.symm
  subst hxs
  have hR:=h.dropM hm'
  have hok':∀b o,okR X β ρ S.flat.mem w b o→Je X.ok X.w.heap.size (fun _=>0) [] (Qf β ρ (Ju S.flat.mem id)) w b o:=by
   rintro b o ⟨o1,o2,o3,o4⟩
   refine⟨o1,o2,o3,fun t ht hc=>?_⟩
   obtain⟨l1,l2,e1,_,e3⟩:=Ji hm'
   obtain⟨q,hq,rfl⟩:=QY.1 ht
   rw[e3]at hq
   refine o4 _ (QY.2 ⟨q,?_,rfl⟩) hc
   rw[e1]
   rcases QW.1 hq with hq | hq
   ·exact QZ _ hq
   ·exact QV _ (.tail _ hq)
  rw[Cc o,hd,hop]at hg ⊢
  refine Tv (a:=a) hT hR.toG (r:=rt u) hg h1 hte htd he (by rw[Jh]; exact QJ hsz) hzl hpos hby (by rw[gvE h (Qc a) hs,hse']) (by rw[gvE h (Qc a) hx,hxe]) (hyv.weak hok') happ (fun hz a' hS=>?_) fun A' c' a' w' hS=>?_
  ·subst hz
   rw[←e4']at hS
   exact H β (upd ρ d (.slice none 0 0)) _ _ _ hk ⟨rfl,rfl,rfl,Wf f3 (Jz d β ρ _)⟩ (Qqh (S:={ S with mem:=Ju S.mem id }) hX hr h.sz hwd f1 f2 f3 hS)
  ·rw[←e4']at hS
   refine H β (upd ρ d (.slice A' zs.length c')) _ _ _ hk ⟨rfl,rfl,rfl,Wf f3 (Jz d β ρ _)⟩ ?_
   exact Zw (S:={ S with mem:=Ju S.mem id }) (o:=.row e u zs) hX hr h.sz hwd f1 f2 f3 hS (by simp only[Qw,Jc]; exact X7.refl _) ⟨_,_,_,rfl⟩
 have hse':a.eval s=.slice A m c:=by rw[hse,←hρ,←hz0]; rfl
 obtain⟨l1,l2,e1,_,e3⟩:=Ji hm'
 have hO:Qf β ρ S.flat.mem=Qf β ρ l1++ml (.slice A m c) e (rt u) xs::Qf β ρ l2:=by rw[e1]; simp[Qf,Qw,hρ]
 rw[Cc o,hd,hop]at hg ⊢
 refine Qhz hT h.toG (Qf β ρ l1) (Qf β ρ l2) (r:=rt u) hg h1 hte htd he (by rw[Jh]; exact QJ hsz) hzl hpos hby hO (by rw[gvE h (Qc a) hs,hse']) (by rw[gvE h (Qc a) hx,hxe]) hyv happ fun A' c' a' w' hS=>?_
 refine H β (upd ρ d (.slice A' zs.length c')) _ _ _ hk ⟨rfl,rfl,rfl,Wf f3 (Jz d β ρ _)⟩ ?_
 have e4:Ju S.mem id++S.fixM=l1++l2:=by rw[←K2 hm]; exact e3
 have hS':=hS.perm (O':=ml (.slice A' zs.length c') e (rt u) zs::Qf β ρ (Ju S.mem id++S.fixM)) (by rw[e4]; simp only[Qf,JK]; exact XZ)
 exact Zw (S:={ S with mem:=Ju S.mem id }) (o:=.row e u zs) hX hr h.sz hwd f1 f2 f3 hS' (by simp only[Qw,Jc]; exact X7.refl _) ⟨_,_,_,rfl⟩
theorem Jbi(hT:Q4 P Y.T)(hX:X.n=n)(hr:X.res=[])(h:Rel X β ρ S.flat a w){o:Oper}(hw:Region.wanted o (yielded ops a.tmps)=true){d:Nat}(hd:o.dst=some d)(hwd:okW n S d=true){id:Nat}
  (hb:okB ⟨S.env,S.fix,Ju S.mem id,S.fixM,S.prot⟩ d=true)
  {t:TypeId} {s x:Operand} (hop:o.op=.call ⟨.builtin .append,⟨[s,x]⟩,⟨[t,t]⟩⟩) {te ee:TE} {e:TypeId} (hte:Qh Y.T t=some te) (htd:te.d=.slice e) (he:Qh Y.T e=some ee) {u:Ty} (hsz:Nat.beq ee.size u.size=true)
  (hpos:Nat.ble 1 ee.size=true) (hby:Nat.ble 1 ee.bytes=true) (hzl:Nat.beq (Qu ee.z).length ee.size=true) {xv:AV} (hs:S.ev [] s=some (.s id)) (hx:S.ev [] x=some xv) {xs ys zs:List u.De} (hm:Qe S.mem id=some (.tail e u xs)) (hy:asD S.flat.mem xv (.sl u)=some ys)
  (happ:app ee.bytes xs ys=some zs) (hk:k (({ S with mem:=Ju S.mem id }.born d (.tail e u zs)).put d [] (.s d))=some r) (H:KOk P ops Q rest X S β ρ k r):wpList P ops Q (o::rest) a w:=by
 obtain⟨f1,f2,f3⟩:=Ga hb
 obtain⟨h1,h2⟩:=Yx hwd hX hr
 have hg:=L6 h hw
 obtain⟨A2,m2,c2,hxe,hyv⟩:=slV h hx hy
 obtain⟨c1,hse,⟨v0,hs2,hz0⟩,A,m,c,hρ⟩:=h.ev (Qc a) hs
 subst hs2
 have hm':Qe S.flat.mem id=some (.tail e u xs):=Q0 hm
 have e4':Ju S.mem id++S.fixM=Ju S.flat.mem id:=(K2 hm).symm
 rcases hz0 with hz0 | ⟨h00,A0,hz0⟩
 case inr =>
  have hse':a.eval s=.slice A0 0 0:=by rw[hse,←hz0]; rfl
  have hxs:xs=[]:=by
   have:=(h.ob hm').1.1
   rw[h00]at this
   obtain⟨A',c',q1,_⟩:=Qjt this
   injection q1 with _ q2
   exact XX.1 q2.symm
  subst hxs
  have hR:=h.dropM hm'
  have hok':∀b o,okR X β ρ S.flat.mem w b o→Je X.ok X.w.heap.size (fun _=>0) [] (Qf β ρ (Ju S.flat.mem id)) w b o:=by
   rintro b o ⟨o1,o2,o3,o4⟩
   refine⟨o1,o2,o3,fun t ht hc=>?_⟩
   obtain⟨l1,l2,e1,_,e3⟩:=Ji hm'
   obtain⟨q,hq,rfl⟩:=QY.1 ht
   rw[e3]at hq
   refine o4 _ (QY.2 ⟨q,?_,rfl⟩) hc
   rw[e1]
   rcases QW.1 hq with hq | hq
   ·exact QZ _ hq
   ·exact QV _ (.tail _ hq)
  have hfz:∀{ρ1:Nat→Value} {a1:Act} {w1:World},Rel X β ρ1 ⟨⟨d,[],.s d⟩::(Jr (Yu d S.env) d++S.fix),(d,.row e u zs)::(Ju S.mem id++S.fixM)⟩ a1 w1→Rel X β ρ1 ⟨⟨d,[],.s d⟩::(Jr (Yu d S.env) d++S.fix),(d,.tail e u zs)::(Ju S.mem id++S.fixM)⟩ a1 w1 :=
   fun hq=>Rel.freeze1 (l1:=[]) hq (by rw[←QJ hsz]; exact hpos)
  rw[Cc o,hd,hop]at hg ⊢
  refine Tv (a:=a) hT hR.toG (r:=rt u) hg h1 hte htd he (by rw[Jh]; exact QJ hsz) hzl hpos hby (by rw[gvE h (Qc a) hs,hse']) (by rw[gvE h (Qc a) hx,hxe]) (Q7v (hyv.weak hok')) happ (fun hz a' hS=>?_) fun A' c' a' w' hS=>?_
  ·subst hz
   rw[←e4']at hS
   exact H β (upd ρ d (.slice none 0 0)) _ _ _ hk ⟨rfl,rfl,rfl,Wf f3 (Jz d β ρ _)⟩ (hfz (Qqh (S:={ S with mem:=Ju S.mem id }) hX hr h.sz hwd f1 f2 f3 hS))
  ·rw[←e4']at hS
   refine H β (upd ρ d (.slice A' zs.length c')) _ _ _ hk ⟨rfl,rfl,rfl,Wf f3 (Jz d β ρ _)⟩ (hfz ?_)
   exact Zw (S:={ S with mem:=Ju S.mem id }) (o:=.row e u zs) hX hr h.sz hwd f1 f2 f3 hS (by simp only[Qw,Jc]; exact X7.refl _) ⟨_,_,_,rfl⟩
 have hse':a.eval s=.slice A m c:=by rw[hse,←hρ,←hz0]; rfl
 have hes:ee.size=(rt u).size:=by rw[Jh]; exact QJ hsz
 obtain⟨l1,l2,e1,_,e3⟩:=Ji hm'
 have hO:Qf β ρ S.flat.mem=Qf β ρ l1++Qcg (.slice A m c) e (rt u) xs::Qf β ρ l2:=by rw[e1]; simp[Qf,Qw,hρ]
 have hG:=h.toG
 rw[hO]at hG
 have hxv:isV (rSl (rt u)) (Je X.ok X.w.heap.size (fun _=>0) [] (Qf β ρ S.flat.mem) w) w xs (.slice A m c):=by
  have:=(h.ob hm').1.1
  rw[hρ]at this
  exact this
 have hsim:K9 (Qf β ρ l1++Qcg (.slice A m c) e (rt u) xs::Qf β ρ l2) (Qf β ρ l1++tl (.slice A m c) e ee.size::Qf β ρ l2) :=
  (K9.refl _).append (.cons ⟨fun _=>Iff.rfl,fun _ _=>by rw[hes]; exact Iff.rfl,fun _ _ hp=>by rw[hes]; exact hp.2⟩ (K9.refl _))
 have hG2:=Sb.simO hG hsim
 have hok:∀b o,Je X.ok X.w.heap.size (fun _=>0) [] (Qf β ρ S.flat.mem) w b o→Je X.ok X.w.heap.size (fun _=>0) [] (Qf β ρ l1++tl (.slice A m c) e ee.size::Qf β ρ l2) w b o:=by rw[hO]; exact hsim.ok
 have hG3:=hG2.addD (d:=DF.v (rSl (rt u)) xs (.slice A m c)) (hxv.weak hok)
 rw[Cc o,hd,hop]at hg ⊢
 refine Qzw hT hG3 0 0 (Qf β ρ l1) (Qf β ρ l2) (r:=rt u) hg h1 hte htd he hes hzl hpos hby rfl (by rw[gvE h (Qc a) hs,hse']) (by rw[gvE h (Qc a) hx,hxe]) rfl (hyv.weak hok) happ fun A' c' a' w' hv' hS=>?_
 refine H β (upd ρ d (.slice A' zs.length c')) _ _ _ hk ⟨rfl,rfl,rfl,Wf f3 (Jz d β ρ _)⟩ ?_
 have e4:Ju S.mem id++S.fixM=l1++l2:=by rw[←K2 hm]; exact e3
 have hS1:Sb (fun _=>0) X (Tj (Qij X.n a) d (.v (.slice A' zs.length c'))) (S.flat.env.map (enD β ρ a)) [] (Qf β ρ l1++tl (.slice A' zs.length c') e ee.size::Qf β ρ l2) a' w':={ hS with dat:=hS.dat.2 }
 have hpw:=QM.1 hS1.dOO
 have hS2:Sb (fun _=>0) X (Tj (Qij X.n a) d (.v (.slice A' zs.length c'))) (S.flat.env.map (enD β ρ a)) [] (Qf β ρ l1++Qcg (.slice A' zs.length c') e (rt u) zs::Qf β ρ l2) a' w':=by
  refine Sb.remake hS1 (fun t' ht'=>?_) ?_
  ·rcases QW.1 ht' with ht' | ht'
   ·exact .inl ⟨t',by simp[ht'],fun _ hg=>hg,fun _ _ hc=>hc,(hS1.own t' (by simp[ht'])).1⟩
   ·rcases QX.1 ht' with rfl | ht'
    ·refine .inl ⟨tl (.slice A' zs.length c') e ee.size,by simp,fun _ hg=>hg,fun _ _ hc=>by rw[hes]; exact hc,hv',?_⟩
     have:=(hS1.own (tl (.slice A' zs.length c') e ee.size) (by simp)).1
     rw[hes]at this
     exact this
    ·exact .inl ⟨t',by simp[ht'],fun _ hg=>hg,fun _ _ hc=>hc,(hS1.own t' (by simp[ht'])).1⟩
  ·have hp2:=QG.1 hpw.2.1
   refine QM.2 ⟨hpw.1,QG.2 ⟨fun u hu=>hp2.1 u hu,hp2.2⟩,fun t ht t' ht'=>?_⟩
   rcases QX.1 ht' with rfl | ht'
   ·exact hpw.2.2 t ht (tl (.slice A' zs.length c') e ee.size) (.head _)
   ·exact hpw.2.2 t ht t' (.tail _ ht')
 have hS':=hS2.perm (O':=Qcg (.slice A' zs.length c') e (rt u) zs::Qf β ρ (Ju S.mem id++S.fixM)) (by rw[e4]; simp only[Qf,JK]; exact XZ)
 exact Zw (S:={ S with mem:=Ju S.mem id }) (o:=.tail e u zs) hX hr h.sz hwd f1 f2 f3 hS' (by simp only[Qw,Jc]; exact X7.refl _) ⟨_,_,_,rfl⟩
theorem Jpd(hT:Q4 P Y.T)(hX:X.n=n)(hr:X.res=[])(h:Rel X β ρ S.flat a w){o:Oper}(hw:Region.wanted o (yielded ops a.tmps)=true){d:Nat}(hd:o.dst=some d)(hwd:okW n S d=true)(hb:okB S d=true)
  {t:TypeId} {s x:Operand} (hop:o.op=.call ⟨.builtin .append,⟨[s,x]⟩,⟨[t,t]⟩⟩) {te ee:TE} {e:TypeId} (hte:Qh Y.T t=some te) (htd:te.d=.slice e) (he:Qh Y.T e=some ee) {u:Ty} (hsz:Nat.beq ee.size u.size=true)
  (hpos:Nat.ble 1 ee.size=true) (hby:Nat.ble 1 ee.bytes=true) (hzl:Nat.beq (Qu ee.z).length ee.size=true) {xv:AV} (hs:S.ev [] s=some .z) (hx:S.ev [] x=some xv) {ys zs:List u.De} (hy:asR S.flat.mem xv u=some ys)
  (happ:app ee.bytes [] ys=some zs) (hk:k ((S.born d (.row e u zs)).put d [] (.s d))=some r) (H:KOk P ops Q rest X S β ρ k r):wpList P ops Q (o::rest) a w:=by
 obtain⟨f1,f2,f3⟩:=Ga hb
 obtain⟨h1,h2⟩:=Yx hwd hX hr
 have hg:=L6 h hw
 obtain⟨A2,m2,c2,hxe,hyv⟩:=slR h hx hy
 obtain⟨c1,hse,A,hs2⟩:=h.ev (Qc a) hs
 subst hs2
 have hse':a.eval s=.slice A 0 0:=hse
 rw[Cc o,hd,hop]at hg ⊢
 refine Tv hT h.toG (r:=rt u) hg h1 hte htd he (by rw[Jh]; exact QJ hsz) hzl hpos hby (by rw[gvE h (Qc a) hs,hse']) (by rw[gvE h (Qc a) hx,hxe]) hyv happ (fun hz a' hS=>?_) fun A' c' a' w' hS=>?_
 ·subst hz
  exact H β (upd ρ d (.slice none 0 0)) _ _ _ hk (U3 f3 (Jz d β ρ _) _ _ _) (Qqh hX hr h.sz hwd f1 f2 f3 hS)
 ·refine H β (upd ρ d (.slice A' zs.length c')) _ _ _ hk (U3 f3 (Jz d β ρ _) _ _ _) ?_
  exact Zw (o:=.row e u zs) hX hr h.sz hwd f1 f2 f3 hS (by simp only[Qw,Jc]; exact X7.refl _) ⟨_,_,_,rfl⟩
end
end Gx

/- Strings as bytes, strings that are appended to bytes. -/
namespace Gx
open Go Go.RowKit Go.Lib Gd
set_option linter.unusedVariables false
set_option linter.unusedSimpArgs false
set_option linter.constructorNameAsVariable false
theorem Tw(l:Str):strCells ⟨⟨l⟩⟩=(Z5 l).map (Value.int .u8):=by simp[strCells,Z5]
theorem Qep{k:IntKind}{ok:Ok}{w:World}:∀xs:List Int,Ka (Ti k) ok w xs (xs.map (Value.int k))
 | []=>rfl
 | x::xs=>⟨[.int k x],xs.map (Value.int k),rfl,rfl,Qep xs⟩
theorem Jkt{v:Value}(h:Jo5 v=true):v=.int .u8 0:=by
 unfold Jo5 at h
 split at h
 ·rfl
 ·cases h
theorem Jku{d:TypeDesc}(h:Jo6 d=true):d=.int .u8:=by
 unfold Jo6 at h
 split at h
 ·rfl
 ·cases h
theorem Jbj{d:TypeDesc}(h:Q5m d=true):d=.string:=by
 unfold Q5m at h
 split at h
 ·rfl
 ·cases h
theorem Q0w(w:World)(e:TypeId)(s:ByteArray):Below w.heap.size w (bytesWorld w e s) :=
 ⟨rfl,rfl,rfl,by rw[bytesWorld_size]; omega,fun b hb=>bytesWorld_at_old w e s b hb⟩
section
variable {P:Program} {T:Tab} {β:Nat→Nat} {X:Cx} {G:GL} {D:List DF} {H:HL} {O:List TL} {a:Act} {w w':World}
variable {ops:Array Oper} {Q:Exit→Act→World→Prop} {rest:List Oper}
theorem Qqi(hT:Q4 P T)(h:Sb β X G D H O a w)(O1 O2:List TL){t t':TypeId}{s x:Operand}{d:Nat}{ps:String}{af:Array Edge}{ty:TypeId}{gd:Option (Nat×Bool)}
  (hg:B3 ops G ⟨some d,.call ⟨.builtin .append,⟨[s,x]⟩,⟨[t,t']⟩⟩,ty,ps,af,gd⟩=some true) (hlt:okD X d=true)
  {xs zs:List Int} {l:Str} {A:Option Addr} {m c:Nat} {e:TypeId} {te te' ee:TE} (ht:Qh T t=some te) (htd:te.d=.slice e) (ht':Qh T t'=some te') (htd':te'.d=.string) (he:Qh T e=some ee)
  (hz:ee.z=.int .u8 0) (hsz:ee.size=1) (hby:ee.bytes=1)
  (hO:O=O1++ml (.slice A m c) e (Ti .u8) xs::O2) (hs1:gv G s=some (.v (.slice A m c))) (hx1:gv G x=some (.v (Yd l))) (happ:app 1 xs (Z5 l)=some zs)
  (hk:∀A' c' a' w',Sb β X (Tj G d (.v (.slice A' zs.length c'))) D H (O1++ml (.slice A' zs.length c') e (Ti .u8) zs::O2) a' w'→wpList P ops Q rest a' w') :
  wpList P ops Q (⟨some d,.call ⟨.builtin .append,⟨[s,x]⟩,⟨[t,t']⟩⟩,ty,ps,af,gd⟩::rest) a w:=by
 obtain⟨hbytes,rfl⟩:=Qju happ
 have hmem:ml (.slice A m c) e (Ti .u8) xs∈O:=by rw[hO]; simp
 obtain⟨⟨hl,xs0,hown,hr⟩,hmine⟩:=h.own _ hmem
 obtain⟨i,hi,hz',hs',hb'⟩:=W0 hT he
 simp only[Zt]at hown hl
 have hll:(Z5 l).length=l.length:=by simp[Z5]
 have hu:=(Jl hT ht).2; rw[htd]at hu
 have hu':=(Jl hT ht').2; rw[htd']at hu'
 have hsl:(⟨⟨l⟩⟩:ByteArray).size=l.length:=rfl
 obtain⟨v',w1,hrun,hown',hgrow,hblk⟩:=Qcf (P:=P) (w:=w) (ty:=ty) hu hu' hi (by rw[hz',hz]) (by rw[hs',hsz]) (by rw[hb',hby]) (base:=0) (v:=.slice A m c) (n:=m) (xs:=xs0) hown ⟨⟨l⟩⟩ (by rw[hsl]; omega) (JB _)
 rw[hsl]at hown'
 have hrun':(execOp a.eval ⟨some d,.call ⟨.builtin .append,⟨[s,x]⟩,⟨[t,t']⟩⟩,ty,ps,af,gd⟩).run P w=.ok (.value v') w1:=by
  unfold execOp
  have hm:(Array.mk [s,x]).map a.eval=⟨[.slice A m c,Yd l]⟩:=by simp[h.ev hs1,h.ev hx1,Iq]
  simp only[resolve,hm,invoke,builtin]
  simp[hrun,Yd]
 have hform:∃A' c',v'=.slice A' (m+l.length) c':=by
  rcases hown'.2 with⟨rfl,h0⟩ | ⟨g,cap,cur,fz,rfl,_⟩
  ·exact⟨none,0,by rw[h0]⟩
  ·exact⟨_,cap,rfl⟩
 obtain⟨A',c',rfl⟩:=hform
 have hlen:m+l.length=(xs++Z5 l).length:=by rw[QC,hl,hll]
 refine Jk (Kh h hg) (Yn hrun' ?_)
 have hS:Sb β X G D H (O1++ml (.slice A' (m+l.length) c') e (Ti .u8) (xs++Z5 l)::O2) a w1:=by
  refine h.upd hO hgrow.os hgrow.tape hgrow.output hgrow.size (fun b hb hn=>hgrow.block b hb fun e=>hn e.symm) (fun b o hb=>hb) (fun g hg=>?_) fun hevo hok=>?_
  ·rcases hblk with he1 | ⟨he1,_⟩
   ·exact .inl (by have hg:(Value.slice A' (m+l.length) c').ownBlock=some g:=hg; rw[he1]at hg; exact hg)
   ·have hg:(Value.slice A' (m+l.length) c').ownBlock=some g:=hg
    rw[he1]at hg; injection hg with hg; exact .inr (by omega)
  ·refine⟨hlen,xs0++strCells ⟨⟨l⟩⟩,hown',N1 (Xy (Ft hr hevo) hok) ?_⟩
   rw[Tw]
   exact Qep _
 have:=hk A' c' (a.put (some d) (.slice A' (m+l.length) c')) w1
 rw[←hlen]at this
 exact this (hS.put hlt (.v _))
theorem Q5v(hT:Q4 P T)(h:Sb β X G D H O a w){t t':TypeId}{s x:Operand}{d:Nat}{ps:String}{af:Array Edge}{ty:TypeId}{gd:Option (Nat×Bool)}
  (hg:B3 ops G ⟨some d,.call ⟨.builtin .append,⟨[s,x]⟩,⟨[t,t']⟩⟩,ty,ps,af,gd⟩=some true) (hlt:okD X d=true)
  {zs:List Int} {l:Str} {A:Option Addr} {e:TypeId} {te te' ee:TE} (ht:Qh T t=some te) (htd:te.d=.slice e) (ht':Qh T t'=some te') (htd':te'.d=.string) (he:Qh T e=some ee)
  (hz:ee.z=.int .u8 0) (hsz:ee.size=1) (hby:ee.bytes=1)
  (hs1:gv G s=some (.v (.slice A 0 0))) (hx1:gv G x=some (.v (Yd l))) (happ:app 1 [] (Z5 l)=some zs)
  (hk1:zs=[]→∀a',Sb β X (Tj G d (.v (.slice A 0 0))) D H O a' w→wpList P ops Q rest a' w)
  (hk2:∀A' c' a' w',Sb β X (Tj G d (.v (.slice A' zs.length c'))) D H (ml (.slice A' zs.length c') e (Ti .u8) zs::O) a' w'→wpList P ops Q rest a' w') :
  wpList P ops Q (⟨some d,.call ⟨.builtin .append,⟨[s,x]⟩,⟨[t,t']⟩⟩,ty,ps,af,gd⟩::rest) a w:=by
 obtain⟨hbytes,hzs⟩:=Qju happ
 simp only[QD,JO,QE]at hbytes hzs
 subst hzs
 obtain⟨i,hi,hz',hs',hb'⟩:=W0 hT he
 have hll:(Z5 l).length=l.length:=by simp[Z5]
 have hu:=(Jl hT ht).2; rw[htd]at hu
 have hu':=(Jl hT ht').2; rw[htd']at hu'
 have hsl:(⟨⟨l⟩⟩:ByteArray).size=l.length:=rfl
 have hm:(Array.mk [s,x]).map a.eval=⟨[.slice A 0 0,Yd l]⟩:=by simp[h.ev hs1,h.ev hx1,Iq]
 have hexec:∀v' w1,(Builtin.append_ #[t,t'] ty #[.slice A 0 0,.string ⟨⟨l⟩⟩]).run P w=.ok v' w1→(execOp a.eval ⟨some d,.call ⟨.builtin .append,⟨[s,x]⟩,⟨[t,t']⟩⟩,ty,ps,af,gd⟩).run P w=.ok (.value v') w1:=by
  intro v' w1 hr
  unfold execOp
  simp only[resolve,hm,invoke,builtin]
  simp[hr,Yd]
 by_cases hl0:l.length=0
 ·have hl:l=[]:=JJ hl0
  subst hl
  have hrun:(Builtin.append_ #[t,t'] ty #[.slice A 0 0,.string ⟨⟨[]⟩⟩]).run P w=.ok (.slice A 0 0) w:=by
   have hs0:(⟨⟨[]⟩⟩:ByteArray).size=0:=rfl
   cases A<;>simp[Builtin.append_,run_underlying hu,run_underlying hu',Go.sizeOf,typeInfo,hi,Builtin.lenOf,Builtin.firstCells,storeCells,hs0]
  refine Jk (Kh h hg) (Yn (hexec _ _ hrun) ?_)
  exact hk1 rfl _ (h.put hlt (.v _))
 ·have hone:(Builtin.append_ #[t,t'] ty #[.slice A 0 0,.string ⟨⟨l⟩⟩]).run P w=(Builtin.append_ #[t,t'] ty #[.slice none 0 0,.string ⟨⟨l⟩⟩]).run P w:=by
   have hn:=run_append_nil_string (P:=P) w t t' ty e i (.int .u8 0) hu hu' hi (by rw[hz',hz]) ⟨⟨l⟩⟩ (by rw[hsl]; omega) (by rw[hsl]; omega) (by rw[hb',hby,hsl]; omega)
   cases A with
   | none=>rfl
   | some ad =>
    have:=run_append_grow_string (P:=P) w t t' ty e i (.int .u8 0) hu hu' hi (by rw[hz',hz]) ad 0 0 [] (by simp) (by simp) ⟨⟨l⟩⟩ (by rw[hsl]; omega) (by rw[hsl]; omega) (by rw[hb',hby,hsl]; exact growslice_fits (by omega) (by omega))
    have e0:(strCells ⟨⟨l⟩⟩).toArray=(List.map (fun b=>Value.int .u8 (b.toNat:Int)) l).toArray:=by simp[strCells]
    rw[this,hn]; simp[e0]
  have h0:=Sb.addNilM h e (Ti .u8)
  obtain⟨v',w1,hrun,hown',hgrow,hblk⟩:=Qcf (P:=P) (w:=w) (ty:=ty) hu hu' hi (by rw[hz',hz]) (by rw[hs',hsz]) (by rw[hb',hby]) (base:=0) (v:=.slice none 0 0) (n:=0) (xs:=[]) (World.ownsRowS_nil w 0 e 1) ⟨⟨l⟩⟩ (by rw[hsl]; omega) (JB _)
  rw[hsl]at hown'
  refine Jk (Kh h hg) (Yn (hexec _ _ (hone.trans hrun)) ?_)
  have hform:∃A' c',v'=.slice A' (0+l.length) c':=by
   rcases hown'.2 with⟨rfl,h0⟩ | ⟨g,cap,cur,fz,rfl,_⟩
   ·exact⟨none,0,by rw[h0]⟩
   ·exact⟨_,cap,rfl⟩
  obtain⟨A',c',rfl⟩:=hform
  rw[QE]at hown'
  rw[QE]at hblk
  have hS:Sb β X G D H (ml (.slice A' l.length c') e (Ti .u8) (Z5 l)::O) a w1:=by
   refine h0.upd (O1:=[]) rfl hgrow.os hgrow.tape hgrow.output hgrow.size (fun b hb hn=>hgrow.block b hb fun e=>hn e.symm) (fun b o hb=>hb) (fun g hg=>?_) fun hevo hok=>?_
   ·rcases hblk with he1 | ⟨he1,_⟩
    ·exact .inl (by have hg:(Value.slice A' l.length c').ownBlock=some g:=hg; rw[he1]at hg; exact hg)
    ·have hg:(Value.slice A' l.length c').ownBlock=some g:=hg
     rw[he1]at hg; injection hg with hg; exact .inr (by omega)
   ·refine⟨by simp[Zt,hll],strCells ⟨⟨l⟩⟩,(by have q:=hown'; simp only[QD]at q; exact q),?_⟩
    rw[Tw]
    exact Qep _
  have:=hk2 A' c' (a.put (some d) (.slice A' l.length c')) w1
  rw[hll]at this
  rw[QE]
  exact this (hS.put hlt (.v _))
end
section
variable {P:Program} {Y:TX} {X:Cx} {S:XS} {β β':Nat→Nat} {ρ ρ':Nat→Value} {a a':Act} {w w':World} {n:Nat}
variable {ops:Array Oper} {Q:Exit→Act→World→Prop} {rest:List Oper} {R:Type} {k:XS→Option R} {r:R}
theorem Jbk(hT:Q4 P Y.T)(hX:X.n=n)(hr:X.res=[])(h:Rel X β ρ S.flat a w){o:Oper}(hw:Region.wanted o (yielded ops a.tmps)=true){d:Nat}(hd:o.dst=some d)(hwd:okW n S d=true){id:Nat}
  (hb:okB ⟨S.env,S.fix,Ju S.mem id,S.fixM,S.prot⟩ d=true)
  {t t':TypeId} {s x:Operand} (hop:o.op=.call ⟨.builtin .append,⟨[s,x]⟩,⟨[t,t']⟩⟩) {te te' ee:TE} {e:TypeId} (hte:Qh Y.T t=some te) (htd:te.d=.slice e) (hte':Qh Y.T t'=some te') (htd':te'.d=.string) (he:Qh Y.T e=some ee)
  (hz:ee.z=.int .u8 0) (hsz:ee.size=1) (hby:ee.bytes=1) {l:Str} (hs:S.ev [] s=some (.s id)) (hx:S.ev [] x=some (.d .str l)) {xs zs:List Int} (hm:Qe S.mem id=some (.row e (.int .u8) xs))
  (happ:app 1 xs (Z5 l)=some zs) (hk:k (({ S with mem:=Ju S.mem id }.born d (.row e (.int .u8) zs)).put d [] (.s d))=some r) (H:KOk P ops Q rest X S β ρ k r):wpList P ops Q (o::rest) a w:=by
 obtain⟨f1,f2,f3⟩:=Ga hb
 obtain⟨h1,h2⟩:=Yx hwd hX hr
 have hg:=L6 h hw
 have hxe:a.eval x=Yd l:=h.toW.str (Qc a) hx rfl
 obtain⟨c1,hse,⟨v0,hs2,hz0⟩,A,m,c,hρ⟩:=h.ev (Qc a) hs
 subst hs2
 have hm':Qe S.flat.mem id=some (.row e (.int .u8) xs):=Q0 hm
 have e4':Ju S.mem id++S.fixM=Ju S.flat.mem id:=(K2 hm).symm
 rcases hz0 with hz0 | ⟨h00,A0,hz0⟩
 case inr =>
  have hse':a.eval s=.slice A0 0 0:=by rw[hse,←hz0]; rfl
  have hxs:xs=[]:=by
   have:=(h.ob hm').1.1
   rw[h00]at this
   exact XX.1 this.symm
  subst hxs
  have hR:=h.dropM hm'
  rw[Cc o,hd,hop]at hg ⊢
  refine Q5v (a:=a) hT hR.toG hg h1 hte htd hte' htd' he hz hsz hby (by rw[gvE h (Qc a) hs,hse']) (by rw[gvE h (Qc a) hx,hxe]) happ (fun hz a' hS=>?_) fun A' c' a' w' hS=>?_
  ·subst hz
   rw[←e4']at hS
   exact H β (upd ρ d (.slice none 0 0)) _ _ _ hk ⟨rfl,rfl,rfl,Wf f3 (Jz d β ρ _)⟩ (Qqh (u:=.int .u8) (S:={ S with mem:=Ju S.mem id }) hX hr h.sz hwd f1 f2 f3 hS)
  ·rw[←e4']at hS
   refine H β (upd ρ d (.slice A' zs.length c')) _ _ _ hk ⟨rfl,rfl,rfl,Wf f3 (Jz d β ρ _)⟩ ?_
   exact Zw (S:={ S with mem:=Ju S.mem id }) (o:=.row e (.int .u8) zs) hX hr h.sz hwd f1 f2 f3 hS (by simp only[Qw,Jc]; exact X7.refl _) ⟨_,_,_,rfl⟩
 have hse':a.eval s=.slice A m c:=by rw[hse,←hρ,←hz0]; rfl
 obtain⟨l1,l2,e1,_,e3⟩:=Ji hm'
 have hO:Qf β ρ S.flat.mem=Qf β ρ l1++ml (.slice A m c) e (Ti .u8) xs::Qf β ρ l2:=by rw[e1]; simp[Qf,Qw,hρ,rt]
 rw[Cc o,hd,hop]at hg ⊢
 refine Qqi hT h.toG (Qf β ρ l1) (Qf β ρ l2) hg h1 hte htd hte' htd' he hz hsz hby hO (by rw[gvE h (Qc a) hs,hse']) (by rw[gvE h (Qc a) hx,hxe]) happ fun A' c' a' w' hS=>?_
 refine H β (upd ρ d (.slice A' zs.length c')) _ _ _ hk ⟨rfl,rfl,rfl,Wf f3 (Jz d β ρ _)⟩ ?_
 have e4:Ju S.mem id++S.fixM=l1++l2:=by rw[←K2 hm]; exact e3
 have hS':=hS.perm (O':=ml (.slice A' zs.length c') e (Ti .u8) zs::Qf β ρ (Ju S.mem id++S.fixM)) (by rw[e4]; simp only[Qf,JK]; exact XZ)
 exact Zw (S:={ S with mem:=Ju S.mem id }) (o:=.row e (.int .u8) zs) hX hr h.sz hwd f1 f2 f3 hS' (by simp only[Qw,Jc]; exact X7.refl _) ⟨_,_,_,rfl⟩
theorem Jbl(hT:Q4 P Y.T)(hX:X.n=n)(hr:X.res=[])(h:Rel X β ρ S.flat a w){o:Oper}(hw:Region.wanted o (yielded ops a.tmps)=true){d:Nat}(hd:o.dst=some d)(hwd:okW n S d=true)(hb:okB S d=true)
  {t t':TypeId} {s x:Operand} (hop:o.op=.call ⟨.builtin .append,⟨[s,x]⟩,⟨[t,t']⟩⟩) {te te' ee:TE} {e:TypeId} (hte:Qh Y.T t=some te) (htd:te.d=.slice e) (hte':Qh Y.T t'=some te') (htd':te'.d=.string) (he:Qh Y.T e=some ee)
  (hz:ee.z=.int .u8 0) (hsz:ee.size=1) (hby:ee.bytes=1) {l:Str} (hs:S.ev [] s=some .ns) (hx:S.ev [] x=some (.d .str l)) {zs:List Int}
  (happ:app 1 [] (Z5 l)=some zs) (hk:k ((S.born d (.row e (.int .u8) zs)).put d [] (.s d))=some r) (H:KOk P ops Q rest X S β ρ k r):wpList P ops Q (o::rest) a w:=by
 obtain⟨f1,f2,f3⟩:=Ga hb
 obtain⟨h1,h2⟩:=Yx hwd hX hr
 have hg:=L6 h hw
 have hxe:a.eval x=Yd l:=h.toW.str (Qc a) hx rfl
 obtain⟨c1,hse,hs2⟩:=h.ev (Qc a) hs
 have hs2':c1=_:=hs2
 subst hs2'
 have hse':a.eval s=.slice none 0 0:=hse
 have hnil:Sb (fun _=>0) X (Qij X.n a) (S.flat.env.map (enD β ρ a)) [] (ml (.slice none 0 0) e (Ti .u8) []::Qf β ρ S.flat.mem) a w:=Sb.addNilM h.toG e (Ti .u8)
 rw[Cc o,hd,hop]at hg ⊢
 refine Qqi hT hnil [] (Qf β ρ S.flat.mem) hg h1 hte htd hte' htd' he hz hsz hby rfl (by rw[gvE h (Qc a) hs,hse']) (by rw[gvE h (Qc a) hx,hxe]) happ fun A' c' a' w' hS=>?_
 refine H β (upd ρ d (.slice A' zs.length c')) _ _ _ hk (U3 f3 (Jz d β ρ _) _ _ _) ?_
 exact Zw (o:=.row e (.int .u8) zs) hX hr h.sz hwd f1 f2 f3 hS (by simp only[Qw,Jc]; exact X7.refl _) ⟨_,_,_,rfl⟩
theorem Q5w(hT:Q4 P Y.T)(hX:X.n=n)(hr:X.res=[])(h:Rel X β ρ S.flat a w){o:Oper}(hw:Region.wanted o (yielded ops a.tmps)=true){d:Nat}(hd:o.dst=some d)(hwd:okW n S d=true)(hb:okB S d=true)
  {s t:TypeId} {x:Operand} (hop:o.op=.convert s t x) {se te ee:TE} {e:TypeId} (hse:Qh Y.T s=some se) (hte:Qh Y.T t=some te) (htd:te.d=.slice e) (he:Qh Y.T e=some ee) (hed:ee.d=.int .u8)
  {l:Str} (hx:S.ev [] x=some (.d .str l)) {zs:List Int} (happ:app 1 [] (Z5 l)=some zs) (hk:k ((S.born d (.row e (.int .u8) zs)).put d [] (.s d))=some r) (H:KOk P ops Q rest X S β ρ k r):wpList P ops Q (o::rest) a w:=by
 obtain⟨f1,f2,f3⟩:=Ga hb
 obtain⟨h1,h2⟩:=Yx hwd hX hr
 have hxe:a.eval x=Yd l:=h.toW.str (Qc a) hx rfl
 obtain⟨hbytes,hzs⟩:=Qju happ
 simp only[QD]at hzs
 subst hzs
 have hll:(Z5 l).length=l.length:=by simp[Z5]
 have hsl:(⟨⟨l⟩⟩:ByteArray).size=l.length:=rfl
 have hus:=(Jl hT hse).2
 have hut:=(Jl hT hte).2; rw[htd]at hut
 have hue:=(Jl hT he).2; rw[hed]at hue
 have hconv:=run_convert_string_bytes (P:=P) w s t e ⟨⟨l⟩⟩ hus hut hue
 have hrun:(execOp a.eval o).run P w=.ok (.value (.slice (some ⟨w.heap.size,0,none⟩) l.length (grownCap w l.length 0 e))) (bytesWorld w e ⟨⟨l⟩⟩):=by
  unfold execOp
  rw[hop]
  simp only[hxe,Yd]
  rw[Sem.run_bind,hconv]
  rfl
 refine Jk hw (Yn hrun ?_)
 have hge:=grownCap_ge w l.length 0 e
 have hcm:grownCap w l.length 0 e≤maxLen:=grownCap_le_maxLen w l.length 0 e (by rw[Lu]; simp only[JO,QE,KL]at hbytes; omega)
 have hcsz:(bytesCells w e ⟨⟨l⟩⟩).size=grownCap w l.length 0 e:=by
  simp only[bytesCells,KK,Array.size_map,VS,hsl]
  have:(⟨l⟩:Array UInt8).size=l.length:=rfl
  omega
 have hown:(bytesWorld w e ⟨⟨l⟩⟩).ownsRowS 0 e 1 (.slice (some ⟨w.heap.size,0,none⟩) l.length (grownCap w l.length 0 e)) l.length (strCells ⟨⟨l⟩⟩):=by
  refine⟨by rw[strCells_length,hsl,KL],.inr ⟨w.heap.size,_,_,_,rfl,JB _,bytesWorld_at_new w e ⟨⟨l⟩⟩,.inr rfl,hge,hcm,by rw[hcsz,KL]; exact QB _,?_⟩⟩
  simp only[bytesCells,KS,KL]
  rw[ZC (by simp),JP (by simp)]
  simp[strCells]
 have hbel:=Q0w w e ⟨⟨l⟩⟩
 have hS:=Sb.allocTL h.toG hbel (t:=ml (.slice (some ⟨w.heap.size,0,none⟩) l.length (grownCap w l.length 0 e)) e (Ti .u8) (Z5 l)) (fun g hg=>by
  have hg:some w.heap.size=some g:=hg
  injection hg with hg; omega) ⟨by simp[Zt,hll],_,hown,by rw[Tw]; exact Qep _⟩
 rw[hd]
 refine H β (upd ρ d (.slice (some ⟨w.heap.size,0,none⟩) l.length (grownCap w l.length 0 e))) _ _ _ hk (U3 f3 (Jz d β ρ _) _ _ _) ?_
 exact Zw (o:=.row e (.int .u8) (Z5 l)) hX hr h.sz hwd f1 f2 f3 (hS.put h1 (.v _)) (by simp only[Qw,Jc]; exact X7.refl _) ⟨_,_,_,rfl⟩
end
end Gx

/- The builtin copy. -/
namespace Gx
open Go Go.RowKit Gd
set_option linter.unusedVariables false
set_option linter.unusedSimpArgs false
theorem Que{τ:Type}{r:RT τ}{ok:Ok}{w:World}:∀{xs:List τ} {cs:List Value} (k:Nat),Ka r ok w xs cs→Ka r ok w (xs.drop k) (cs.drop (k*r.size))
 | xs,cs,0,h=>by simpa using h
 | [],cs,k+1,h=>by
  have h':cs=[]:=h
  subst h'
  simp[Ka]
 | x::xs,cs,k+1,⟨c1,c2,e,h1,h2⟩=>by
  have hl:=r.len h1
  subst e
  have e2:(c1++c2).drop ((k+1)*r.size)=c2.drop (k*r.size):=by
   rw[List.drop_append,VB (by rw[hl,QP]; omega),QD,hl]
   congr 1
   rw[QP]; omega
  rw[e2]
  simpa using Que k h2
theorem Quf{τ:Type}{r:RT τ}{ok:Ok}{w:World}:∀{xs:List τ} {cs:List Value} (k:Nat),Ka r ok w xs cs→Ka r ok w (xs.take k) (cs.take (k*r.size))
 | xs,cs,0,h=>by simp[Ka]
 | [],cs,k+1,h=>by
  have h':cs=[]:=h
  subst h'
  simp[Ka]
 | x::xs,cs,k+1,⟨c1,c2,e,h1,h2⟩=>by
  have hl:=r.len h1
  subst e
  refine⟨c1,c2.take (k*r.size),?_,h1,Quf k h2⟩
  rw[KE,JP (by rw[hl,QP]; omega),hl]
  congr 2
  rw[QP]; omega
theorem Jmd{P:Program}{w:World}(a:Addr)(cs:List Value)(k:Nat)(hk:cs.length=k)(h:∀j v,cs[j]?=some v→w.cell? (a.add j)=some v):(loadCells a k).run P w=.ok cs.toArray w:=by
 subst hk; exact run_loadCells_list w a cs h
section
variable {P:Program} {w:World} {dT sT ty elem:TypeId} {i:TypeInfo}
theorem Jbm(hu:P.underlying dT=some (.slice elem))(hi:P.info? elem=some i){d a:Option Addr}{dLen dCap sLen sCap:Nat}(hn:Nat.min sLen dLen=0) :
  (Builtin.copy_ #[dT,sT] ty #[.slice d dLen dCap,.slice a sLen sCap]).run P w=.ok (goInt 0) w:=by
 have hl:∀(x:Addr),(loadCells x 0).run P w=.ok #[] w:=fun x=>Jmd x [] 0 rfl (by simp)
 cases d<;>cases a<;>simp[Builtin.copy_,run_underlying hu,Builtin.lenOf,Builtin.firstCells,Go.sizeOf,typeInfo,hi,hn,storeCells,hl]
theorem Jbn(hu:P.underlying dT=some (.slice elem))(hi:P.info? elem=some i){g dLen dCap sLen sCap:Nat}{a:Addr}{cur:Array Value}{t:TypeId}{fz:Nat×Nat}{cs:List Value}(hg:w.heap[g]?=some (.cells cur t fz))(hfz:Qwh fz cur.size)
  (hn:cs.length=Nat.min sLen dLen*i.size) (hsrc:∀j v,cs[j]?=some v→w.cell? (a.add j)=some v) (hfit:cs.length≤cur.size) (h1:∀v∈cs,v.oneCell'=true) :
  (Builtin.copy_ #[dT,sT] ty #[.slice (some ⟨g,0,none⟩) dLen dCap,.slice (some a) sLen sCap]).run P w=.ok (goInt (Nat.min sLen dLen:Nat)) (w.setRow g (cs++cur.toList.drop cs.length).toArray):=by
 have hl:=Jmd (P:=P) (w:=w) a cs _ hn hsrc
 have hst:=Uy P g 0 t fz cs 0 cur w hg hfz (by simpa using hfit) h1
 simp only[ZD,QE,ZA,QD]at hst
 simp[Builtin.copy_,run_underlying hu,Builtin.lenOf,Builtin.firstCells,Go.sizeOf,typeInfo,hi,hl,hst]
end
section
variable {P:Program} {Y:TX} {X:Cx} {S:XS} {β β':Nat→Nat} {ρ ρ':Nat→Value} {a a':Act} {w w':World} {n:Nat}
variable {ops:Array Oper} {Q:Exit→Act→World→Prop} {rest:List Oper} {R:Type} {k:XS→Option R} {r:R}
theorem Jpe(hT:Q4 P Y.T)(hX:X.n=n)(hr:X.res=[])(h:Rel X β ρ S.flat a w){o:Oper}(hw:Region.wanted o (yielded ops a.tmps)=true){d:Nat}(hd:o.dst=some d)(hwd:okW n S d=true){t t':TypeId}{dst src:Operand}
  (hop:o.op=.call ⟨.builtin .copy,⟨[dst,src]⟩,⟨[t,t']⟩⟩) {te ee:TE} {e:TypeId} (hte:Qh Y.T t=some te) (htd:te.d=.slice e) (he:Qh Y.T e=some ee) {id:Nat} {xv:AV} {et:TypeId} {u:Ty} {xs ys:List u.De} (hs:S.ev [] dst=some (.s id)) (hx:S.ev [] src=some xv)
  (hm:Qe S.mem id=some (.row et u xs)) (hy:asD S.flat.mem xv (.sl u)=some ys) (hsz:Nat.beq ee.size u.size=true) (hpos:Nat.ble 1 u.size=true)
  (hk:k ((S.set id (.row et u (A6 xs ys))).put d [] (.d (.int .i64) (Qfr xs ys)))=some r) (H:KOk P ops Q rest X S β ρ k r):wpList P ops Q (o::rest) a w:=by
 obtain⟨h1,h2⟩:=Yx hwd hX hr
 have hm':Qe S.flat.mem id=some (.row et u xs):=Q0 hm
 obtain⟨l1,l2,e1,e2,e3⟩:=Ji hm'
 obtain⟨c1,hse,⟨v0,hs2,hz0⟩,A,m,c,hρ⟩:=h.ev (Qc a) hs
 subst hs2
 have hag:(Ty.sl u).agg=xv.isAgg:=by
  cases xv with
  | d t' y'=>obtain⟨rfl,_⟩:=Ty.cast_ok (by simpa only[asD]using hy); rfl
  | ag l=>simp[asD]at hy
  | _=>rfl
 have hiv:=h.toW.asD (Qc a) hx hy hag
 obtain⟨A2,c2,hev,hyv⟩:=Qjt (r:=rt u) hiv
 obtain⟨cs,hcl,hyl,hyc,hA2,hc1,hc3,hc4⟩:=N0 (Z3.1 hyv)
 obtain⟨i,hi,_,his,_⟩:=W0 hT he
 have hu:=(Jl hT hte).2; rw[htd]at hu
 have hsu:=QJ hsz
 obtain⟨⟨hl0,cs0,hown0,hr0⟩,_⟩:=h.ob hm'
 have hO:Qf β ρ S.flat.mem=Qf β ρ l1++ml (ρ id) et (rt u) xs::Qf β ρ l2:=by rw[e1]; simp[Qf,Qw]
 have hgo:∀w1,Sb (fun _=>0) X [] (S.flat.env.map (enD β ρ a)) [] (Qf β ρ l1++ml (ρ id) et (rt u) (A6 xs ys)::Qf β ρ l2) a w1→wpList P ops Q rest (a.put (some d) (goInt (Qfr xs ys))) w1:=by
  intro w1 hS
  have hE:(S.set id (.row et u (A6 xs ys))).flat=⟨S.flat.env,Nu S.flat.mem id (.row et u (A6 xs ys))⟩:=by
   simp only[XS.flat,XS.set]
   rw[K1 hm]
  refine H β ρ ((S.set id (.row et u (A6 xs ys))).put d [] (.d (.int .i64) (Qfr xs ys))) _ _ hk ⟨rfl,rfl,rfl,agP.refl _ _ _⟩ ?_
  have hmem:Qf β ρ (l1++(id,Ob.row et u (A6 xs ys))::l2)=Qf β ρ l1++ml (ρ id) et (rt u) (A6 xs ys)::Qf β ρ l2:=by simp[Qf,Qw]
  have hRel:Rel X β ρ (S.set id (.row et u (A6 xs ys))).flat a w1:=by
   rw[hE,e2]
   exact Rel.ofSb hS hmem.symm fun e he=>by
    have:=Jf.1 hS.dat _ (QY.2 ⟨e,he,rfl⟩)
    rw[←hmem]at this
    exact this
  have:=hRel.put0 h1 (x:=.d (.int .i64) (Qfr xs ys)) (c:=[.int .i64 (Qfr xs ys)]) rfl
  rw[←Xp (S:=S.set id (.row et u (A6 xs ys))) h2]at this
  exact this
 have hm2:∀v,a.eval dst=v→(execOp a.eval o).run P w=((Builtin.copy_ #[t,t'] o.type #[v,.slice A2 ys.length c2]).run P w).andThen fun v w'=>.ok (.value v) w':=by
  intro v hv
  unfold execOp
  have hmm:(Array.mk [dst,src]).map a.eval=⟨[v,.slice A2 ys.length c2]⟩:=by simp[hv,hev]
  simp only[hop,resolve,hmm,invoke,builtin]
  simp
 have hzero:∀v A' m' c',a.eval dst=v→v=.slice A' m' c'→Nat.min ys.length m'=0→Nat.min ys.length xs.length=0→wpList P ops Q (o::rest) a w:=by
  intro v A' m' c' hv hv2 hn0 hn1
  refine Jk hw (Yn (w':=w) (v:=goInt 0) (by rw[hm2 v hv,hv2,Jbm hu hi hn0]; rfl) ?_)
  rw[hd]
  have hcl0:A6 xs ys=xs:=by unfold A6; rw[hn1]; simp
  have hcn0:Qfr xs ys=0:=by unfold Qfr; rw[hn1]; rfl
  have:=hgo w
  rw[hcl0,hcn0,←hO]at this
  exact this h
 rcases hz0 with hz0 | ⟨h00,A0,hz0⟩
 case inr =>
  have hse':a.eval dst=.slice A0 0 0:=by rw[hse,←hz0]; rfl
  have hxs:xs.length=0:=by rw[h00]at hl0; exact hl0.symm
  exact hzero _ A0 0 0 hse' rfl (by simp[VT]) (by rw[hxs]; simp[VT])
 have hse':a.eval dst=.slice A m c:=by rw[hse,←hρ,←hz0]; rfl
 have hmx:m=xs.length:=by rw[hρ]at hl0; exact hl0
 by_cases hn0:Nat.min ys.length xs.length=0
 ·exact hzero _ A m c hse' rfl (by rw[hmx]; exact hn0) hn0
 have hypos:0<ys.length:=by have:=Nat.min_le_left ys.length xs.length; simp only[VT]at hn0; split at hn0<;>omega
 have hxpos:0<xs.length:=by simp only[VT]at hn0; split at hn0<;>omega
 obtain⟨b2,o2,rfl,hcc⟩:=hc3 hypos
 rcases hown0.2 with⟨hv,hn⟩ | ⟨g,cap,cur,fz,hv,_,hh,hfz,hle,hcm,hcs,hcur⟩
 ·rw[hρ]at hv; injection hv with _ hv _
  omega
 rw[hρ]at hv
 injection hv with hA hm1 hcap
 subst hA
 have hlenV:Zt (ρ id)=xs.length:=hl0
 rw[hlenV]at hle hcur
 have husz:(rt u).size=u.size:=Jh u
 have hisz:i.size=(rt u).size:=by rw[his,hsu,husz]
 have hnle:Nat.min ys.length xs.length≤xs.length:=Nat.min_le_right _ _
 have hnle2:Nat.min ys.length xs.length≤ys.length:=Nat.min_le_left _ _
 generalize hnn:Nat.min ys.length xs.length=k0 at *
 have hkm:k0*(rt u).size≤xs.length*(rt u).size:=JH _ hnle
 have hkm2:k0*(rt u).size≤ys.length*(rt u).size:=JH _ hnle2
 have hmc:xs.length*(rt u).size≤cap*(rt u).size:=JH _ hle
 have hnl:(cs.take (k0*(rt u).size)).length=k0*(rt u).size:=by rw[QO,hcl]; omega
 have hcsl:cap*(rt u).size≤cur.toList.length:=by simpa using hcs
 have hst:=Jbn (P:=P) (w:=w) (dT:=t) (sT:=t') (ty:=o.type) hu hi (dLen:=m) (dCap:=c) (sLen:=ys.length) (sCap:=c2) (a:=⟨b2,o2,none⟩) (cs:=cs.take (k0*(rt u).size)) hh hfz (by rw[hnl,hmx,hnn,hisz]) (fun j v hj=>by
   rw[Hw]
   refine(hcc j v ?_).2
   rw[JD]at hj
   split at hj
   ·exact hj
   ·cases hj) (by rw[hnl]; omega) (fun v hv=>hc1 v (WQ hv))
 refine Jk hw (Yn (w':=w.setRow g (cs.take (k0*(rt u).size)++cur.toList.drop (cs.take (k0*(rt u).size)).length).toArray) (v:=goInt (Qfr xs ys)) (by rw[hm2 _ hse',hst]; simp only[Qfr,hmx,hnn]; rfl) ?_)
 rw[hd]
 have hset:=setRow_heap w g cur (cs.take (k0*(rt u).size)++cur.toList.drop (cs.take (k0*(rt u).size)).length).toArray et _ hh
 have hsizeN:(cs.take (k0*(rt u).size)++cur.toList.drop (cs.take (k0*(rt u).size)).length).length=cur.toList.length:=by
  rw[QC,JX,hnl]; omega
 have hlenC:(A6 xs ys).length=xs.length:=by
  unfold A6
  rw[hnn,QC,QO,JX]; omega
 have hys:Ka (rt u) (Je X.ok X.w.heap.size (fun _=>0) [] (Qf β ρ S.flat.mem) w) w (ys.take k0) (cs.take (k0*(rt u).size)):=by
  have hall:Ka (rt u) (Je X.ok X.w.heap.size (fun _=>0) [] (Qf β ρ S.flat.mem) w) w ys cs:=Qhy ys cs hcl hc4
  exact Quf k0 hall
 have hS:=Sb.upd h (O1:=Qf β ρ l1) (O2:=Qf β ρ l2) (t:=ml (ρ id) et (rt u) xs) (t':=ml (ρ id) et (rt u) (A6 xs ys)) (w':=w.setRow g (cs.take (k0*(rt u).size)++cur.toList.drop (cs.take (k0*(rt u).size)).length).toArray) hO rfl rfl rfl (by simp)
  (fun b hb hn=>setRow_other _ _ _ _ fun e=>hn (by subst e; show(ρ id).ownBlock=_; rw[hρ]; rfl)) (fun b o hb=>hb) (fun g hg=>.inl hg) fun hevo hok=>by
   refine⟨by rw[hlenV,hlenC],_,⟨?_,.inr ⟨g,cap,_,fz,by rw[hρ,hcap]; rfl,JB _,hset,by rw[XK,hsizeN]; simpa using hfz,by rw[hlenV]; exact hle,hcm,by rw[XK,hsizeN]; exact hcsl,rfl⟩⟩,?_⟩
   ·rw[hlenV]
    show(List.take (xs.length*(rt u).size) (cs.take (k0*(rt u).size)++cur.toList.drop (cs.take (k0*(rt u).size)).length)).length=_
    rw[QO,hsizeN]; omega
   ·rw[hlenV]
    show Ka (rt u) _ _ (A6 xs ys) (List.take (xs.length*(rt u).size) (cs.take (k0*(rt u).size)++cur.toList.drop (cs.take (k0*(rt u).size)).length))
    have e5:List.take (xs.length*(rt u).size) (cs.take (k0*(rt u).size)++cur.toList.drop (cs.take (k0*(rt u).size)).length)=cs.take (k0*(rt u).size)++(cs0.drop (k0*(rt u).size)):=by
     rw[KE,hnl,JP (by rw[hnl]; exact hkm),←hcur,KU]
    rw[e5]
    have h6:=N1 (Xy (Ft hys hevo) hok) (Xy (Ft (Que k0 hr0) hevo) hok)
    have e6:A6 xs ys=ys.take k0++xs.drop k0:=by unfold A6; rw[hnn]
    rw[←e6]at h6
    exact h6
 exact hgo _ hS
end
end Gx

/- A key is taken out of a map; the beginning of a row of one's own. -/
namespace Gx
open Go Go.RowKit Gd
set_option linter.unusedVariables false
set_option linter.unusedSimpArgs false
section
variable {P:Program} {T:Tab}
theorem Qxc(hT:Q4 P T){kt:TypeId}{te:TE}(ht:Qh T kt=some te){k:Ty}(h:Yt T k te.d=true)(key:k.De){ν:Type}{s:RT ν}{ok:Ok}{w:World}:∀{xs:List (k.De×ν)} {es:List MapEntry},Xn (rt k) s ok w xs es →
  (Qr key xs=none∧Lf key xs=xs) ∨
  (∃(j:Nat) (e:MapEntry),(∀i,(Instr.findAsking kt (Ye k key) es i).run P w=.ok (some (i+j,e.val)) w)∧es[j]?=some e∧Xn (rt k) s ok w (Lf key xs) (es.eraseIdx j))
 | [],es,hp=>.inl ⟨rfl,rfl⟩
 | x::xs,es,hp=>by
  obtain⟨e,es',rfl,h1,h2,h3⟩:=hp
  have hk:=W7 (Jx h) h1
  have heq:=Lz hT ht h key x.1 w
  simp only[Lf,Qr,Instr.findAsking,Sem.run_bind,hk,heq,Result.andThen_ok]
  cases he:eqK k key x.1 with
  | true=>exact .inr ⟨0,e,by simp,rfl,h3⟩
  | false =>
   rcases Qxc hT ht h key h3 with⟨q1,q2⟩ | ⟨j,e',q2,q3,q5⟩
   ·exact .inl ⟨q1,by simp only[cond_false,q2]⟩
   ·exact .inr ⟨j+1,e',fun i=>by rw[show i+(j+1)=i+1+j by omega]; simpa using q2 (i+1),q3,⟨e,_,rfl,h1,h2,q5⟩⟩
theorem Q0x{k:Ty}{ν:Type}(key:k.De):∀{xs:List (k.De×ν)},(Lf key xs).Sublist xs
 | []=>List.Sublist.refl _
 | x::xs=>by
  simp only[Lf]
  cases eqK k key x.1 with
  | true=>exact(List.Sublist.refl _).cons _
  | false=>exact(Q0x key).cons_cons _
theorem Q5x(hT:Q4 P T){t kt et:TypeId}{te tk:TE}(ht:Qh T t=some te)(htd:te.d=.map kt et)(hk:Qh T kt=some tk)
  {k:Ty} {ν:Type} {s:RT ν} (hd:Yt T k tk.d=true) {ok:Ok} {w:World} {g:Nat} {es:Array MapEntry} {clock:Nat} (hg:w.heap[g]?=some (.map es clock)) {xs:List (k.De×ν)} (hp:Xn (rt k) s ok w xs es.toList) (hst:Fw es clock) (key:k.De) (kt' ty:TypeId) :
  ∃es',(Builtin.delete_ #[t,kt'] ty #[.map (some g),Ye k key]).run P w=.ok (.tuple #[]) { w with heap:=w.heap.setIfInBounds g (.map es' clock) }∧Xn (rt k) s ok w (Lf key xs) es'.toList∧Fw es' clock:=by
 have hu:=(Jl hT ht).2
 rw[htd]at hu
 rcases Ro hT hk hd key w hp with⟨q1,q2⟩ | ⟨j,e,y,q1,q2,q3,q4,q5⟩
 ·refine⟨es,?_,?_,hst⟩
  ·simp[Builtin.delete_,run_underlying hu,MapKept.run_getObj_map hg,K8 hT hk hd,q2,MapKept.run_setObj_map _ hg,Result.andThen]
  ·rcases Qxc hT hk hd key hp with⟨_,r2⟩ | ⟨j,e,r1,r2,r3⟩
   ·rw[r2]; exact hp
   ·have r4:=r1 0
    have:=L1 hT hk hd key w hp r4
    rw[q2]at this
    injection this with this; cases this
 ·rcases Qxc hT hk hd key hp with⟨r1,_⟩ | ⟨j',e',r1,r2,r3⟩
  ·rw[q1]at r1; cases r1
  ·have r4:=r1 0
   have:=L1 hT hk hd key w hp r4
   rw[q2]at this
   injection this with this
   simp only[Option.some.injEq,Prod.mk.injEq]at this
   have hj:j=j':=by omega
   subst hj
   have hlt:j<es.size:=by have:=(QK.1 q3).1; simpa using this
   have hl:(es.eraseIdxIfInBounds j).toList=es.toList.eraseIdx j:=by
    unfold Array.eraseIdxIfInBounds
    rw[dif_pos hlt,Array.toList_eraseIdx]
   refine⟨es.eraseIdxIfInBounds j,?_,by rw[hl]; exact r3,?_,fun e he=>?_⟩
   ·simp[Builtin.delete_,run_underlying hu,MapKept.run_getObj_map hg,K8 hT hk hd,q2,MapKept.run_setObj_map _ hg,Result.andThen]
   ·rw[hl]
    exact hst.1.sublist ((VM _ _).map _)
   ·rw[hl]at he
    exact hst.2 e ((VM _ _).subset he)
end
section
variable {P:Program} {Y:TX} {X:Cx} {S:XS} {β β':Nat→Nat} {ρ ρ':Nat→Value} {a a':Act} {w w':World} {n:Nat}
variable {ops:Array Oper} {Q:Exit→Act→World→Prop} {rest:List Oper} {R:Type} {k:XS→Option R} {r:R}
theorem Jf4(hT:Q4 P Y.T)(h:Rel X β ρ S.flat a w){o:Oper}(hw:Region.wanted o (yielded ops a.tmps)=true){t t':TypeId}{m ky:Operand}(hop:o.op=.call ⟨.builtin .delete,⟨[m,ky]⟩,⟨[t,t']⟩⟩)(hd:o.dst=none){te tk:TE}{kt et:TypeId}(hte:Qh Y.T t=some te)(htd:te.d=.map kt et)(htk:Qh Y.T kt=some tk)
  {id:Nat} {kv:AV} {kk v:Ty} {xs:List (kk.De×v.De)} {key:kk.De} (hm:S.ev [] m=some (.m id)) (hkv:S.ev [] ky=some kv) (hmo:Qe S.mem id=some (.map kk v xs)) (hkey:asD [] kv kk=some key)
  (hdk:Yt Y.T kk tk.d=true) (hka:(kk.agg==kv.isAgg)=true)
  (hk:k (S.set id (.map kk v (Lf key xs)))=some r) (H:KOk P ops Q rest X S β ρ k r):wpList P ops Q (o::rest) a w:=by
 obtain⟨c1,h1,h2⟩:=h.ev (Qc a) hm
 have h2':c1=[.map (some (β id))]:=h2
 subst h2'
 have h1':a.eval m=.map (some (β id)):=h1
 obtain⟨c3,h3,h4⟩:=h.ev (Qc a) hkv
 have hkr:isV (rt kk) (okR X β ρ S.flat.mem w) w key (a.eval ky):=by
  refine⟨c3,Z4 (M:=[]) (β:=β) (ρ:=ρ) (by simp[Qe]) hkey h4,?_⟩
  rw[h3]; simp only[AV.val,RT.val,B6,bEq hka]; cases kv.isAgg<;>rfl
 have hke:=W7 (Jx hdk) hkr
 have hm':Qe S.flat.mem id=some (.map kk v xs):=Q0 hmo
 obtain⟨⟨es,clock,hg,hp,hnd,hst1,hst2⟩,hmine⟩:=h.ob hm'
 obtain⟨es',hrun,hp',hst'⟩:=Q5x hT hte htd htk hdk hg hp ⟨hst1,hst2⟩ key t' o.type
 have hrun':(execOp a.eval o).run P w=.ok (.value (.tuple #[])) { w with heap:=w.heap.setIfInBounds (β id) (.map es' clock) }:=by
  unfold execOp
  have hmm:(Array.mk [m,ky]).map a.eval=⟨[.map (some (β id)),Ye kk key]⟩:=by simp[h1',hke]
  simp only[hop,resolve,hmm,invoke,builtin]
  simp[hrun]
 refine Jk hw (Yn hrun' ?_)
 rw[hd]
 have hO':=Ji hm'
 obtain⟨l1,l2,e1,e2,e3⟩:=hO'
 have hO:Qf β ρ S.flat.mem=Qf β ρ l1++Qw β ρ id (.map kk v xs)::Qf β ρ l2:=by rw[e1]; simp[Qf]
 have hS:=h.upd hO (t':=Qw β ρ id (.map kk v (Lf key xs))) (w':={ w with heap:=w.heap.setIfInBounds (β id) (.map es' clock) }) rfl rfl rfl (by simp) (fun b hb hn=>(MapKept.heap_set hg).2 b fun e=>hn e) (fun b o hb=>hb) (fun g hg=>.inl hg) (fun hevo hok=>by
  refine⟨es',clock,(MapKept.heap_set hg).1,?_,hnd.sublist ((Q0x key).map _),hst'.1,hst'.2⟩
  exact Vo (W6 hp' hevo) hok)
 have hE:(S.set id (.map kk v (Lf key xs))).flat=⟨S.flat.env,Nu S.flat.mem id (.map kk v (Lf key xs))⟩:=by
  simp only[XS.flat,XS.set]
  rw[K1 hmo]
 refine H β ρ _ _ _ hk ⟨rfl,rfl,rfl,agP.refl _ _ _⟩ ?_
 rw[hE,e2]
 have hmem:Qf β ρ (l1++(id,Ob.map kk v (Lf key xs))::l2)=Qf β ρ l1++Qw β ρ id (.map kk v (Lf key xs))::Qf β ρ l2:=by simp[Qf]
 exact Rel.ofSb hS hmem.symm fun e he=>by
  have:=Jf.1 hS.dat _ (QY.2 ⟨e,he,rfl⟩)
  rw[←hmem]at this
  exact this
theorem Jf5(hT:Q4 P Y.T)(hX:X.n=n)(hr:X.res=[])(h:Rel X β ρ S.flat a w){o:Oper}(hw:Region.wanted o (yielded ops a.tmps)=true){d:Nat}(hd:o.dst=some d)(hwd:okW n S d=true){id:Nat}
  (hb:okB ⟨S.env,S.fix,Ju S.mem id,S.fixM,S.prot⟩ d=true) {t:TypeId} {x:Operand} {hi mx:Option Operand} (hop:o.op=.slice t x none hi mx) {te ee:TE} {e:TypeId} (hte:Qh Y.T t=some te) (htd:te.d=.slice e) (he:Qh Y.T e=some ee) {u:Ty} (hsz:Nat.beq ee.size u.size=true)
  {xs ys:List u.De} (hx:S.ev [] x=some (.s id)) (hm:Qe S.mem id=some (.row e u xs)) {q:Int} (hq:bnd S.flat [] xs.length hi=some q) (hys:slc xs 0 q=some ys)
  (hmx:mx=none∨∃hv mv k1 k2 m,hi=some hv∧mx=some mv∧a.eval hv=.int k1 q∧a.eval mv=.int k2 m∧q≤m∧m≤(xs.length:Int))
  (hk:k (({ S with mem:=Ju S.mem id }.born d (.row e u ys)).put d [] (.s d))=some r) (H:KOk P ops Q rest X S β ρ k r):wpList P ops Q (o::rest) a w:=by
 obtain⟨f1,f2,f3⟩:=Ga hb
 obtain⟨h1,h2⟩:=Yx hwd hX hr
 have hg:=L6 h hw
 obtain⟨c1,hse,⟨v0,hs2,hz0⟩,A,m,c,hρ⟩:=h.ev (Qc a) hx
 subst hs2
 have hm':Qe S.flat.mem id=some (.row e u xs):=Q0 hm
 have e4':Ju S.mem id++S.fixM=Ju S.flat.mem id:=(K2 hm).symm
 obtain⟨h0,hq1,hq2,hys',hyl⟩:=slc_ok hys
 have hysT:ys=xs.take q.toNat:=by rw[hys']; simp
 have hun:(underlying t).run P w=.ok (.slice e) w:=by rw[Jw hT w hte,htd]
 obtain⟨⟨hl0,cs0,hown0,hr0⟩,hmine⟩:=h.ob hm'
 have hsz':=QJ hsz
 have hgo:∀(A':Option Addr) (c':Nat),a.eval x=.slice A' xs.length c'→xs.length≤c'→(c'≠0→∀ad,A'=some ad→ad.add 0=ad)→∃c2,ys.length≤c2∧c2≤c'∧(execOp a.eval o).run P w=.ok (.value (.slice A' ys.length c2)) w:=by
  intro A' c' hv hcc hadd
  obtain⟨c2,hc2,hc3,hbn⟩:∃c2,ys.length≤c2∧c2≤c'∧(Instr.sliceBounds true xs.length c' none (hi.map a.eval) (mx.map a.eval)).run P w=.ok (0,q.toNat,c2) w:=by
   rcases hmx with rfl | ⟨hv',mv,k1,k2,m,rfl,rfl,e1,e2,e3,e5⟩
   ·exact⟨c',by omega,QB _,N5 (P:=P) (w:=w) (isS:=true) (lo:=none) (len:=xs.length) (cap:=c') (.inl ⟨rfl,rfl⟩) (h.toW.bnd (Qc a) hq) (KN 0) hq1 (by omega) hcc⟩
   ·exact⟨m.toNat,by omega,by omega,Ql4 (P:=P) (w:=w) (lo:=none) (len:=xs.length) (cap:=c') (.inl ⟨rfl,rfl⟩) e1 e2 (KN 0) hq1 e3 (by omega)⟩
  refine⟨c2,hc2,hc3,?_⟩
  have hA':(if c2=0 then A' else A'.map (·.add (0*u.size)))=A':=by
   split
   ·rfl
   ·rename_i hc0
    cases A' with
    | none=>rfl
    | some ad=>rw[XB]; simp[hadd (by omega) ad rfl]
  have hlen:q.toNat - 0=ys.length:=by omega
  unfold execOp
  rw[hop]
  simp only[hv]
  simp[Instr.sliceAt,hun,Instr.slice,hbn,J5 hT w he,hsz',hlen]
  simpa using hA'
 rcases hz0 with hz0 | ⟨h00,A0,hz0⟩
 case inr =>
  have hse':a.eval x=.slice A0 0 0:=by rw[hse,←hz0]; rfl
  have hxs:xs=[]:=by
   rw[h00]at hl0
   exact XX.1 hl0.symm
  subst hxs
  have hy0:ys=[]:=by rw[hysT]; simp
  subst hy0
  obtain⟨c2,_,hc3,hrun⟩:=hgo A0 0 hse' (QB _) (fun h=>absurd rfl h)
  have hc0:c2=0:=by omega
  subst hc0
  refine Jk hw (Yn hrun ?_)
  rw[hd]
  have hS:=(h.dropM hm').toG.put h1 (.v (.slice A0 0 0))
  rw[←e4']at hS
  exact H β (upd ρ d (.slice none 0 0)) _ _ _ hk ⟨rfl,rfl,rfl,Wf f3 (Jz d β ρ _)⟩ (Qqh (S:={ S with mem:=Ju S.mem id }) hX hr h.sz hwd f1 f2 f3 hS)
 have hse':a.eval x=.slice A m c:=by rw[hse,←hρ,←hz0]; rfl
 have hmx:m=xs.length:=by rw[hρ]at hl0; exact hl0
 subst hmx
 have hlenV:Zt (ρ id)=xs.length:=by rw[hρ]; rfl
 rw[hlenV,hρ]at hown0
 have hcap:xs.length≤c∧(c≠0→∀ad,A=some ad→ad.add 0=ad):=by
  rcases hown0.2 with⟨hv,h0⟩ | ⟨g,cap,cur,fz,hv,_,_,_,hle,_⟩
  ·injection hv with e1 e2 e3
   exact⟨by omega,fun _ ad had=>by rw[e1]at had; cases had⟩
  ·injection hv with e1 e2 e3
   exact⟨by omega,fun _ ad had=>by rw[e1]at had; injection had with had; subst had; exact Hw g 0 0⟩
 obtain⟨c2,hc2,hc3,hrun⟩:=hgo A c hse' hcap.1 hcap.2
 refine Jk hw (Yn hrun ?_)
 rw[hd]
 obtain⟨l1,l2,e1,_,e3⟩:=Ji hm'
 have hO:Qf β ρ S.flat.mem=Qf β ρ l1++ml (.slice A xs.length c) e (rt u) xs::Qf β ρ l2:=by rw[e1]; simp[Qf,Qw,hρ]
 have hyx:ys.length≤xs.length:=by omega
 have hmul:ys.length*(rt u).size≤xs.length*(rt u).size:=JH _ hyx
 have hcsl:cs0.length=xs.length*(rt u).size:=hown0.1
 have hrep:Ka (rt u) (okR X β ρ S.flat.mem w) w ys (cs0.take (ys.length*(rt u).size)):=by
  refine Qhy ys _ (by rw[QO]; omega) fun i y hy=>?_
  have hiy:=(QK.1 hy).1
  rw[hysT,JD]at hy
  split at hy
  ·refine⟨_,Fu hr0 hy,fun j v hj=>?_⟩
   rw[JD]at hj
   split at hj
   ·rename_i hjs
    rw[JZ]at hj
    rw[JD,if_pos ?_]
    ·exact hj
    ·have:(i+1)*(rt u).size≤ys.length*(rt u).size:=JH _ hiy
     rw[QP,WH]at this
     omega
   ·cases hj
  ·cases hy
 have hown:w.ownsRowS 0 e (rt u).size (.slice A ys.length c2) ys.length (cs0.take (ys.length*(rt u).size)):=by
  refine⟨by rw[QO]; omega,?_⟩
  rcases hown0.2 with⟨hv,h0⟩ | ⟨g,cap,cur,fz,hv,hb0,hh,hfz,hle,hcm,hcs,hcur⟩
  ·injection hv with q1 q2 q3
   have hy0:ys.length=0:=by omega
   have hc0:c2=0:=by omega
   exact .inl ⟨by rw[q1,hc0,hy0],hy0⟩
  ·injection hv with q1 q2 q3
   refine .inr ⟨g,c2,cur,fz,by rw[q1],hb0,hh,hfz,by omega,by omega,QN (JH _ (by omega)) hcs,?_⟩
   rw[←hcur,ZP,ZW hmul]
 have hS0:=h.toG.upd hO (t':=ml (.slice A ys.length c2) e (rt u) ys) (w':=w) rfl rfl rfl (QB _) (fun _ _ _=>rfl) (fun b o hb=>hb) (fun g hg=>.inl (by
  have hg':(Value.slice A ys.length c2).ownBlock=some g:=hg
  rw[Fr A ys.length xs.length c2 c]at hg'; exact hg')) (fun hevo hok=>⟨rfl,_,hown,Xy hrep hok⟩)
 have hS:=hS0.put h1 (.v (.slice A ys.length c2))
 refine H β (upd ρ d (.slice A ys.length c2)) _ _ _ hk ⟨rfl,rfl,rfl,Wf f3 (Jz d β ρ _)⟩ ?_
 have e4:Ju S.mem id++S.fixM=l1++l2:=by rw[←K2 hm]; exact e3
 have hS':=hS.perm (O':=ml (.slice A ys.length c2) e (rt u) ys::Qf β ρ (Ju S.mem id++S.fixM)) (by rw[e4]; simp only[Qf,JK]; exact XZ)
 exact Zw (S:={ S with mem:=Ju S.mem id }) (o:=.row e u ys) hX hr h.sz hwd f1 f2 f3 hS' (by simp only[Qw,Jc]; exact X7.refl _) ⟨_,_,_,rfl⟩
theorem Q8h(h:Rel X β ρ S.flat a w):∀{ps:List (Nat×Operand)} {vs:List (Nat×AV)} {c:AV} {j:Nat},Y6 S.flat [] ps=some vs→Ja7 vs j=some c →
  ∃us:List Value,ps.map (fun p=>(p.1,a.eval p.2))=(List.range' j us.length).zip us∧us.length=vs.length∧(∀v∈us,Qu v=[v])∧cr β ρ (okR X β ρ S.flat.mem w) w false c us
 | [],vs,c,j,he,hx=>by
  simp[Y6]at he; subst he
  simp[Ja7]at hx; subst hx
  exact⟨[],rfl,rfl,by simp,rfl⟩
 | (i,x)::ps,vs,c,j,he,hx=>by
  simp only[Y6]at he
  split at he
  ·rename_i v l hv hl
   simp at he; subst he
   simp only[Ja7]at hx
   obtain⟨hb,hx⟩:=bvT hx
   simp only[QQ]at hb
   have:=QJ hb.1
   subst this
   split at hx
   ·rename_i r hr
    simp at hx; subst hx
    obtain⟨us,q1,q2,q3,q4⟩:=Q8h h (ps:=ps) hl hr
    obtain⟨cs,p1,p2⟩:=h.ev (Qc a) hv
    have hone:∃q,a.eval x=.pointer q∧cr β ρ (okR X β ρ S.flat.mem w) w false v [.pointer q]:=by
     cases v with
     | np =>
      have p2':cs=_:=p2
      subst p2'
      exact⟨_,p1,rfl⟩
     | p id path =>
      have p2':cs=_:=p2
      subst p2'
      exact⟨_,p1,rfl⟩
     | _=>cases hb.2
    obtain⟨q,e1,e2⟩:=hone
    refine⟨a.eval x::us,?_,by simp[q2],fun u hu=>?_,?_⟩
    ·simp only[JV,JI,KB,ZI,q1]
    ·rcases QX.1 hu with rfl | hu
     ·rw[e1]; rfl
     ·exact q3 u hu
    ·exact⟨[.pointer q],us,by rw[e1]; rfl,e2,q4⟩
   ·cases hx
  ·cases he
theorem Qqj:∀{us:List Value},(∀v∈us,Qu v=[v])→us.flatMap Qu=us
 | [],_=>rfl
 | v::us,h=>by
  rw[XF,h v (.head _),Qqj fun u hu=>h u (.tail _ hu)]; rfl
theorem Jf6(hT:Q4 P Y.T)(hX:X.n=n)(hr:X.res=[])(h:Rel X β ρ S.flat a w){o:Oper}(hw:Region.wanted o (yielded ops a.tmps)=true){d:Nat}(hd:o.dst=some d)(hwd:okW n S d=true)(hb:okB S d=true)
  {t:TypeId} {m:Nat} {ps:List (Nat×Operand)} (hop:o.op=.buildSlice t (m+1) ⟨ps⟩) {te ee:TE} {e:TypeId} (hte:Qh Y.T t=some te) (htd:te.d=.slice e) (he:Qh Y.T e=some ee)
  {vs:List (Nat×AV)} {c:AV} (hvs:Y6 S.flat [] ps=some vs) (hpl:Ja7 vs 0=some c) (hnd:Uv d c=true) (hl:Nat.beq vs.length (m+1)=true) (hsz:Nat.beq ee.size 1=true) (hzl:Nat.beq (Qu ee.z).length 1=true) (hsm:Nat.ble (m+1) 16777216=true)
  (hk:k ((S.born d (.var e (.ag c))).put d [] (.w d 0 ((m+1:Nat):Int)))=some r) (H:KOk P ops Q rest X S β ρ k r):wpList P ops Q (o::rest) a w:=by
 obtain⟨us,q1,q2,q3,q4⟩:=Q8h h hvs hpl
 have hes:=QJ hsz
 have hul:us.length=m+1:=q2.trans (QJ hl)
 have hzl':=QJ hzl
 have hz0:(Uz (Qu ee.z) ((m+1)*ee.size)).length=(m+1)*ee.size:=by simp[Uz]
 have hfill:=Q0e us 0 (Uz (Qu ee.z) ((m+1)*ee.size)) (s:=ee.size) (fun v hv=>by rw[q3 v hv,hes]; rfl) (by rw[hz0,QE,hul]; exact QB _)
 rw[←q1]at hfill
 have hfill':Nz (Qcd ee.size) (Uz (Qu ee.z) ((m+1)*ee.size)) (ps.map (fun p=>(p.1,a.eval p.2)))=some us:=by
  rw[hfill]
  simp only[XB,ZA,QD,QE]
  rw[XN (by rw[hz0,hul]; exact QB _),QR,Qqj q3]
 have hrun:(execOp a.eval o).run P w=.ok (.value (.slice (some ⟨w.heap.size,0,none⟩) (m+1) (m+1))) (w.alloc (.cells us.toArray e)):=by
  have hm:(Array.mk ps).map (fun(x:Nat×Operand)=>(x.1,a.eval x.2))=⟨ps.map (fun p=>(p.1,a.eval p.2))⟩:=by simp
  have hun:(underlying t).run P w=.ok (.slice e) w:=by rw[Jw hT w hte,htd]
  have h16:¬ (m+1)*ee.size>16777216:=by have:=QF hsm; rw[hes]; omega
  have hf:Instr.fill (fun i=>some (i*ee.size,ee.size)) (Uz (Qu ee.z) ((m+1)*ee.size)).toArray (ps.map (fun p=>(p.1,a.eval p.2)))=some us.toArray:=Ri _ hfill'
  have hzz:(Array.range ((m+1)*ee.size)).map (fun x=>ee.z.cells[x % ee.z.cells.size]!)=(Uz (Qu ee.z) ((m+1)*ee.size)).toArray:=by
   rw[Vn]
   unfold Uz
   apply Array.ext
   ·simp
   ·intro i h1 h2
    have hzs:ee.z.cells.size=1:=by rw[←hzl',Vn]; simp
    have hmod:i % ee.z.cells.size<ee.z.cells.size:=VJ _ (by omega)
    simp[getElem!_pos,hmod]
  unfold execOp
  rw[hop]
  simp only[Instr.buildSlice,Sem.run_bind,hun,J5 hT w he,Result.andThen_ok,hm]
  have h00:m+1≠0:=by omega
  have h01:ee.size≠0:=by omega
  have h02:¬ (m+1)*ee.size=0:=by rw[hes]; omega
  generalize hM:m+1=M at *
  simp[h16,h00,h01,Va hT w he,hzz,hf,newRow]
  exact fun e=>absurd e h02
 exact Jfz (x:=.w d 0 ((m+1:Nat):Int)) (cv:=fun g=>[.slice (some ⟨g,0,none⟩) (m+1) (m+1)]) hX hr h hw hd hwd hb hrun (c:=.ag c) q4 hnd (fun β ρ ok w=>⟨_,_,rfl,fun _=>rfl⟩) hk H
theorem Q0y(hT:Q4 P Y.T){β:Nat→Nat}{G:GL}{D:List DF}{O:List TL}(h:Sb β X G D [] O a w){t:TypeId}{len:Nat}{parts:List (Nat×Operand)}{d:Nat}{ps:String}{af:Array Edge}{ty:TypeId}{gd:Option (Nat×Bool)}
  (hg:B3 ops G ⟨some d,.buildSlice t len ⟨parts⟩,ty,ps,af,gd⟩=some true) (hlt:okD X d=true)
  {τ:Type} {r:RT τ} {xs:List τ} {vs:List Value} {pvs:List (Nat×Value)} (hpv:evParts G parts=some pvs)
  {e:TypeId} {te ee:TE} (ht:Qh Y.T t=some te) (htd:te.d=.slice e) (he:Qh Y.T e=some ee) (hs:ee.size=r.size) (hxl:xs.length=len)
  (hsm:Nat.ble (len*ee.size) 16777216=true) (hps:Nat.ble 1 ee.size=true) (hl1:1≤len) (hz:Nat.beq (Qu ee.z).length ee.size=true)
  (hfill:Nz (Qcd ee.size) (Uz (Qu ee.z) (len*ee.size)) pvs=some (vs.flatMap Qu))
  (hv:Qsu r (Je X.ok X.w.heap.size β [] O w) w xs vs)
  (hk:∀b a' w',Sb β X (Tj G d (.v (.slice (some ⟨b,0,none⟩) xs.length len))) D [] (ml (.slice (some ⟨b,0,none⟩) xs.length len) e r xs::O) a' w'→wpList P ops Q rest a' w') :
  wpList P ops Q (⟨some d,.buildSlice t len ⟨parts⟩,ty,ps,af,gd⟩::rest) a w:=by
 have hps1:=QF hps
 have hsm1:=QF hsm
 have hrun:(execOp a.eval ⟨some d,.buildSlice t len ⟨parts⟩,ty,ps,af,gd⟩).run P w=.ok (.value (.slice (some ⟨w.heap.size,0,none⟩) xs.length len)) (w.alloc (.cells (vs.flatMap Qu).toArray e)):=by
  have hev:=Qgc h hpv
  have hm:(Array.mk parts).map (fun(x:Nat×Operand)=>(x.1,a.eval x.2))=⟨pvs⟩:=by rw[←hev]; simp
  have hun:(underlying t).run P w=.ok (.slice e) w:=by rw[Jw hT w ht,htd]
  have h16:¬ len*ee.size>16777216:=by omega
  have hzl:=QJ hz
  have hf:Instr.fill (fun i=>some (i*ee.size,ee.size)) (Uz (Qu ee.z) (len*ee.size)).toArray pvs=some (vs.flatMap Qu).toArray:=Ri _ hfill
  have hzz:(Array.range (len*ee.size)).map (fun x=>ee.z.cells[x % ee.z.cells.size]!)=(Uz (Qu ee.z) (len*ee.size)).toArray:=by
   rw[Vn]
   unfold Uz
   apply Array.ext
   ·simp
   ·intro i h1 h2
    have hzs:ee.z.cells.size=ee.size:=by rw[←hzl,Vn]; simp
    have hmod:i % ee.z.cells.size<ee.z.cells.size:=VJ _ (by omega)
    simp[getElem!_pos,hmod]
  unfold execOp
  simp only[Instr.buildSlice,Sem.run_bind,hun,J5 hT w he,Result.andThen_ok,hm]
  have h00:len≠0:=by omega
  have h01:ee.size≠0:=by omega
  have h0:¬ len*ee.size=0:=fun e=>by
   rcases Nat.mul_eq_zero.1 e with e | e<;>omega
  simp[h16,h00,h01,Va hT w he,hzz,hf,newRow,hxl]
  exact fun e=>absurd e h0
 refine Jk (Kh h hg) (Yn hrun ?_)
 have hb:Below w.heap.size w (w.alloc (.cells (vs.flatMap Qu).toArray e)):=(Below.refl _ _).alloc (QB _) _
 have hevo:Evo (Je X.ok X.w.heap.size β [] O w) w (w.alloc (.cells (vs.flatMap Qu).toArray e)):=(Evo.of_below hb).mono fun b o hk=>hk.2.1
 obtain⟨hl2,hl3⟩:=Qzt hv
 have hlen:len≤len*ee.size:=KJ len hps1
 refine hk _ _ _ ((h.allocTL hb (t:=ml (.slice (some ⟨w.heap.size,0,none⟩) xs.length len) e r xs) (fun g hg=>?_) ⟨rfl,vs.flatMap Qu,⟨?_,.inr ⟨w.heap.size,len,_,(0,0),rfl,JB _,heap_alloc_new w _,.inl rfl,?_,?_,?_,?_⟩⟩,?_⟩).put hlt (.v _))
 ·have hg:some w.heap.size=some g:=hg
  injection hg with hg; omega
 ·simp only[Zt]; exact hl2
 ·simp only[Zt]; omega
 ·rw[Lu]; omega
 ·show len*r.size≤(vs.flatMap Qu).toArray.size
  rw[XK,hl2,hxl]
  exact QB _
 ·simp only[Zt]
  rw[←hl2]
  exact KC
 ·refine Xy (Ft (Qpt hv) hevo) fun b o hk=>?_
  obtain⟨h1,h2,h3,h4⟩:=hk
  refine⟨h1,JG h2 hb.size,h3,fun u hu hc=>?_⟩
  rcases QX.1 hu with rfl | hu
  ·have hc':some w.heap.size=some b:=hc
   injection hc' with hc'; omega
  ·exact h4 u hu hc
theorem Yv{d:TypeDesc}{e:TypeId}(h:Yy d=some e):d=.slice e:=by
 cases d<;>simp[Yy]at h
 subst h; rfl
end
end Gx
