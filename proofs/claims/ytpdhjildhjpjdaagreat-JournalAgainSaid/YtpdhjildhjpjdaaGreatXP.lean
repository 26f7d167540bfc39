/- Control. -/
import Derived.Test.YtpdhjildhjpjdaaGreatXP1
import Derived.Scope
import Derived.RangeFuncRecord
import Derived.TacticsIn
import Derived.RangeFuncOwn
import Derived.RangeFuncIn
import Derived.RangeFuncLeaves
namespace Gx
open Go Go.RowKit Gd
set_option linter.unusedVariables false
set_option linter.unusedSimpArgs false
section
variable {P:Program} {Y:TX} {X:Cx} {S:XS} {β β':Nat→Nat} {ρ ρ':Nat→Value} {a a':Act} {w w':World} {n N:Nat} {K:List Con}
variable {Q:Exit→Act→World→Prop} {R:Type} {r:R}
theorem Zb(hT:Qy P Y.T)(hmix:P.follows .mixedOrders=true):∀{X:Cx} (hK:KsX P Y X K) (hX:X.n=n) (hr:X.res=[]) (hpin:X.pin=none) {R:Type} {r:R} (an:An) {c:Code} {S:XS} {β:Nat→Nat} {ρ:Nat→Value} {a:Act} {w:World} {k:Ex→XS→Option R} {Q:Exit→Act→World→Prop},
  Rel X β ρ S.flat a w→Ut Y K n N an c S k=some r→COk Q X S β ρ k r→c.wp P Q a w
 | X,hK,hX,hr,hpin,R,r,.nil,c,S,β,ρ,a,w,k,Q,h,hs,H=>by
  cases c<;>simp only[Ut]at hs<;>first | (cases hs; done) | skip
  ·exact wp_skip (H .n β ρ S a w hs (Vb.refl _ _ _) h)
  ·rename_i id; exact wp_exit (H (.x id) β ρ S a w hs (Vb.refl _ _ _) h)
  ·exact wp_label (H .n β ρ S a w hs (Vb.refl _ _ _) h)
  ·exact wp_ret (H .r β ρ S a w hs (Vb.refl _ _ _) h)
 | X,hK,hX,hr,hpin,R,r,.reg hn,c,S,β,ρ,a,w,k,Q,h,hs,H=>by
  cases c with
  | region id ops draw =>
   obtain⟨ops⟩:=ops
   cases draw with
   | true=>simp[Ut]at hs
   | false =>
    simp only[Ut]at hs
    refine wp_region_list ?_
    have:=Vu hT hK hX hr (Q:=Q) hn (l:=ops) (rest:=[]) h hs fun β' ρ' S' a' w' h1 h2 h3=>H .n β' ρ' S' a' w' h1 h2 h3
    grind
  | _=>simp[Ut]at hs
 | X,hK,hX,hr,hpin,R,r,.dr m g1 g2,c,S,β,ρ,a,w,k,Q,h,hs,H=>by
  cases c with
  | region id ops draw =>
   obtain⟨ops⟩:=ops
   cases draw with
   | false=>simp[Ut]at hs
   | true =>
    simp only[Ut]at hs
    obtain⟨hb,hs⟩:=bvT hs
    have hm:P.follows .mixedOrders=true:=hmix
    unfold Jjp at hb
    have tail:∀(β':Nat→Nat) (ρ':Nat→Value) (S':XS) (a':Act),Y7 Y K n ops g2 (ops.drop m) S' (k .n)=some r→Vb S S' β β' ρ ρ'→Rel X β' ρ' S'.flat a' { w with drawn:=w.drawn+1 }→wpList P ⟨ops⟩ Q (ops.drop m) a' { w with drawn:=w.drawn+1 }:=by
     intro β' ρ' S' a' h1 h2 h3
     have:=Vu hT hK hX hr (Q:=Q) g2 (l:=ops.drop m) (rest:=[]) h3 h1 fun β2 ρ2 S2 a2 w2 q1 q2 q3=>H .n β2 ρ2 S2 a2 w2 q1 (h2.trans q2) q3
     grind
    cases hlt:Nat.blt m ops.length with
    | true =>
     rw[hlt]at hb
     refine wp_region_still_tail m hm hb ?_
     have:=Qcu hT hX hr (w:={ w with drawn:=w.drawn+1 }) (Qs:=fun a'=>wpList P ⟨ops⟩ Q (ops.drop m) a' { w with drawn:=w.drawn+1 }) g1 (l:=ops.take m) (rest:=[]) h.drew hs fun β' ρ' S' a' h1 h2 h3=>tail β' ρ' S' a' h1 h2 h3
     grind
    | false =>
     rw[hlt]at hb
     simp only[cond_false,QQ]at hb
     have hm2:=Nat.eq_of_beq_eq_true hb.1
     refine wp_region_still_lit hm hb.2 ?_
     have:=Qcu hT hX hr (w:={ w with drawn:=w.drawn+1 }) (Qs:=fun a'=>wpList P ⟨ops⟩ Q (ops.drop m) a' { w with drawn:=w.drawn+1 }) g1 (l:=ops.take m) (rest:=[]) h.drew hs fun β' ρ' S' a' h1 h2 h3=>tail β' ρ' S' a' h1 h2 h3
     rw[hm2]at this
     simp only[List.take_length,QG,XN]at this
     exact this
  | _=>simp[Ut]at hs
 | X,hK,hX,hr,hpin,R,r,.dc p ds zs zf ht,c,S,β,ρ,a,w,k,Q,h,hs,H=>by
  cases c with
  | region id ops draw =>
   obtain⟨ops⟩:=ops
   cases draw with
   | false=>simp[Ut]at hs
   | true =>
    simp only[Ut]at hs
    obtain⟨hb,hs⟩:=bvT hs
    simp only[QQ]at hb
    refine Q9y hT hmix hK hX hr hpin h hb.1 hb.2 hs fun β' ρ' S' a' w' h' h1 h2 h3=>?_
    have:=Vu hT hK hX hr (Q:=Q) h' (l:=ops.drop p) (rest:=[]) h3 h1 fun β2 ρ2 S2 a2 w2 q1 q2 q3=>H .n β2 ρ2 S2 a2 w2 q1 (h2.trans q2) q3
    grind
  | _=>simp[Ut]at hs
 | X,hK,hX,hr,hpin,R,r,.ch t i x y,c,S,β,ρ,a,w,k,Q,h,hs,H=>by
  simp only[Ut]at hs
  cases hb:Jjq S t i with
  | true=>rw[hb]at hs; exact Zb hT hmix hK hX hr hpin x h hs H
  | false=>rw[hb]at hs; exact Zb hT hmix hK hX hr hpin y h hs H
 | X,hK,hX,hr,hpin,R,r,.cn t x y,c,S,β,ρ,a,w,k,Q,h,hs,H=>by
  simp only[Ut]at hs
  cases hb:Jjr S t with
  | true=>rw[hb]at hs; exact Zb hT hmix hK hX hr hpin x h hs H
  | false=>rw[hb]at hs; exact Zb hT hmix hK hX hr hpin y h hs H
 | X,hK,hX,hr,hpin,R,r,.gh g x,c,S,β,ρ,a,w,k,Q,h,hs,H=>by
  simp only[Ut]at hs
  obtain⟨S1,β1,ρ1,q1,q2,q3⟩:=Qct g h hs
  exact Zb hT hmix hK hX hr hpin x q3 q1 (H.after q2)
 | X,hK,hX,hr,hpin,R,r,.two x y,c,S,β,ρ,a,w,k,Q,h,hs,H=>by
  cases c<;>simp only[Ut]at hs<;>first | (cases hs; done) | skip
  ·rename_i c1 c2
   refine wp_seq (Zb hT hmix hK hX hr hpin x h hs fun e β' ρ' S' a' w' h1 h2 h3=>?_)
   cases e with
   | n=>exact Zb hT hmix hK hX hr hpin y h3 h1 (H.after h2)
   | x i=>exact H (.x i) β' ρ' S' a' w' h1 h2 h3
   | r=>exact H .r β' ρ' S' a' w' h1 h2 h3
  ·rename_i co c1 c2
   split at hs
   ·rename_i v hv
    obtain⟨cs,h1,h2⟩:=h.ev (Qf a) hv
    have h2':cs=_:=h2
    subst h2'
    have h1':a.eval co=.bool v:=h1
    refine wp_cond_split h1' (fun hv=>?_) (fun hv=>?_)
    ·rw[if_pos hv]at hs
     exact Zb hT hmix hK hX hr hpin x h hs H
    ·rw[if_neg (by rw[hv]; simp)]at hs
     exact Zb hT hmix hK hX hr hpin y h hs H
   ·cases hs
 | X,hK,hX,hr,hpin,R,r,.un x,c,S,β,ρ,a,w,k,Q,h,hs,H=>by
  cases c<;>simp only[Ut]at hs<;>first | (cases hs; done) | skip
  ·rename_i id c1
   refine wp_block (Zb hT hmix hK hX hr hpin x h hs fun e β' ρ' S' a' w' h1 h2 h3=>?_)
   cases e with
   | n=>exact H .n β' ρ' S' a' w' h1 h2 h3
   | x i =>
    simp only at h1
    show if i=id then Q .normal a' w' else Q (.exit i) a' w'
    cases hb:Nat.beq i id with
    | true =>
     rw[hb]at h1
     rw[if_pos (Nat.eq_of_beq_eq_true hb)]
     exact H .n β' ρ' S' a' w' h1 h2 h3
    | false =>
     rw[hb]at h1
     rw[if_neg (fun e=>by rw[e,Nat.beq_refl]at hb; cases hb)]
     exact H (.x i) β' ρ' S' a' w' h1 h2 h3
   | r=>exact H .r β' ρ' S' a' w' h1 h2 h3
  ·refine wp_scope_straight (Zb hT hmix hK hX hr hpin x h hs fun e β' ρ' S' a' w' h1 h2 h3=>?_)
   cases e with
   | n=>exact H .n β' ρ' S' a' w' h1 h2 h3
   | x i=>exact H (.x i) β' ρ' S' a' w' h1 h2 h3
   | r=>exact H .r β' ρ' S' a' w' h1 h2 h3
 | X,hK,hX,hr,hpin,R,r,.jn ks ms exs x,c,S,β,ρ,a,w,k,Q,h,hs,H=>by
  simp only[Ut]at hs
  obtain⟨z,hz,ho⟩:=Ys hs
  refine Zb hT hmix hK hX hr hpin x (h.ent ks ms) hz fun e β' ρ' S' a' w' h1 h2 h3=>?_
  obtain⟨β2,ρ2,S1,h4,h5,h6⟩:=Qn3 ks ms h1 ho ⟨h2.fix,h2.fixM,h2.prot⟩ h3
  refine H e β2 ρ2 _ a' w' h4 ⟨rfl,rfl,rfl,?_⟩ h6
  exact agP.trans h2.ag h5
 | X,hK,hX,hr,hpin,R,r,.lp ks ms Γ exs x,c,S,β,ρ,a,w,k,Q,h,hs,H=>by
  cases c<;>simp only[Ut]at hs<;>first | (cases hs; done) | skip
  rename_i c1
  split at hs
  ·rename_i s0 hs0
   obtain⟨z,hz,ho⟩:=Ys hs
   obtain⟨β1,ρ1,h1,h2⟩:=Tk (S0:=S.ent ks ms) (h.ent ks ms) ⟨rfl,rfl,rfl⟩ hs0
   refine Qla (fun m a w=>∃s β' ρ',agP S.prot β β' ρ ρ'∧Rel X β' ρ' ((S.ent ks ms).re (enc Γ s)).flat a w∧Qh _ m s=some z) N ⟨s0,β1,ρ1,h1,h2,hz⟩ ?_
   rintro m a1 w1 ⟨s,β',ρ',h3,h4,h5⟩
   cases m with
   | zero=>simp[Qh]at h5
   | succ m =>
    simp only[Qh]at h5
    obtain⟨q,hq,h5⟩:=Ys h5
    refine Zb hT hmix hK hX hr hpin x h4 hq fun e β2 ρ2 S' a' w' h6 h7 h8=>?_
    cases e with
    | n =>
     simp only at h6
     split at h6
     ·rename_i s' hd
      injection h6 with h6; subst h6
      obtain⟨β3,ρ3,h9,h10⟩:=Tk (S0:=S.ent ks ms) h8 ⟨h7.fix,h7.fixM,h7.prot⟩ hd
      exact⟨m,Nat.lt_succ_self m,s',β3,ρ3,(h3.trans h7.ag).trans h9,h10,h5⟩
     ·cases h6
    | x i =>
     simp only at h6
     split at h6
     ·rename_i s' hd
      injection h6 with h6; subst h6
      injection h5 with h5; subst h5
      obtain⟨β3,ρ3,S1,h9,h10,h11⟩:=Qn3 ks ms hd ho ⟨h7.fix,h7.fixM,h7.prot⟩ h8
      exact H (.x i) β3 ρ3 _ a' w' h9 ⟨rfl,rfl,rfl,(h3.trans h7.ag).trans h10⟩ h11
     ·cases h6
    | r =>
     simp only at h6
     split at h6
     ·rename_i s' hd
      injection h6 with h6; subst h6
      injection h5 with h5; subst h5
      obtain⟨β3,ρ3,S1,h9,h10,h11⟩:=Qn3 ks ms hd ho ⟨h7.fix,h7.fixM,h7.prot⟩ h8
      exact H .r β3 ρ3 _ a' w' h9 ⟨rfl,rfl,rfl,(h3.trans h7.ag).trans h10⟩ h11
     ·cases h6
  ·cases hs
theorem Q4y(p:Addr):(asAddr (.pointer (some p)):Sem Addr)=pure p:=rfl
theorem Q0h(hT:Qy P Y.T)(h:Rel X β ρ S.flat a w):∀{rs:List ResultVar} {i:Nat} {es:List En} (pre:List Value),pre.length=i→Q9l Y S rs i=some es →
  ∃vs:List Value,vs.length=rs.length∧es.length=rs.length∧Sem.run P (rs.mapM fun r=>match r with | .tmp t=>(pure (a.tmps.getD t undef):Sem Value) | .cell ad t=>do loadVar t (←asAddr (a.tmps.getD ad undef))) w=.ok vs w ∧
   ∀e∈es,(enD β ρ ⟨(pre++vs).toArray,[]⟩ e).p (okR X β ρ S.flat.mem w) w
 | [],i,es,pre,_,he=>by simp[Q9l]at he; subst he; exact⟨[],rfl,rfl,rfl,by simp⟩
 | .tmp t::rs,i,es,pre,hi,he=>by
  simp only[Q9l]at he
  split at he
  ·rename_i v r hv hr
   obtain⟨hbi,he⟩:=bvT he
   simp at he; subst he
   obtain⟨cs,h1,h2⟩:=h.ev (Qf a) hv
   obtain⟨vs,h3,h4,h5,h6⟩:=Q0h hT h (rs:=rs) (i:=i+1) (pre++[a.tmps.getD t undef]) (by simp[hi]) hr
   refine⟨a.tmps.getD t undef::vs,by simp[h3],by simp[h4],?_,fun e hm=>?_⟩
   ·rw[ZS]
    simp_all
   ·exact resCons hi hbi (h1▸rfl) h2 h6 e hm
  ·cases he
 | .cell ad t::rs,i,es,pre,hi,he=>by
  simp only[Q9l]at he
  split at he
  ·rename_i v r hv hr
   obtain⟨hbi,he⟩:=bvT he
   simp at he; subst he
   obtain⟨cs,h1,h2⟩:=Qlp (P:=P) (o:=⟨none,.load t (.tmp ad),0, "",#[],none⟩) hT h.toW (Qf a) hv
   obtain⟨vs,h3,h4,h5,h6⟩:=Q0h hT h (rs:=rs) (i:=i+1) (pre++[v.val cs]) (by simp[hi]) hr
   have hp:∃p,a.tmps.getD ad undef=.pointer (some p):=by
    simp only[Qln]at hv
    split at hv
    ·rename_i id path he' hx
     obtain⟨cs1,q1,q2⟩:=h.ev (Qf a) hx
     have q2':cs1=_:=q2
     subst q2'
     exact⟨_,q1⟩
    ·rename_i t' y he' hx
     obtain⟨cs1,q1,v0,q2,b,o,_,q3,_⟩:=h.ev (Qf a) hx
     subst q2; subst q3
     exact⟨_,q1⟩
    ·cases hv
   obtain⟨p,hp⟩:=hp
   have hl:(loadVar t p).run P w=.ok (v.val cs) w:=by
    have h1':=h1
    unfold execOp at h1'
    have hp':a.eval (.tmp ad)=.pointer (some p):=hp
    simp only[hp',Instr.loadAt,Instr.sureAddr,Sem.run_bind,Sem.run_pure,Result.andThen_ok]at h1'
    cases hr:(loadVar t p).run P w with
    | ok v1 w1 =>
     rw[hr]at h1'
     simp_all
    | _=>rw[hr]at h1'; simp_all
   refine⟨v.val cs::vs,by simp[h3],by simp[h4],?_,fun e hm=>?_⟩
   ·rw[ZS]
    simp_all [Q4y,Sem.run_bind,Result.andThen_ok]
   ·exact resCons hi hbi rfl h2 h6 e hm
  ·cases he
where
 resCons {i:Nat} {pre vs:List Value} {v0:Value} {v:AV} {cs:List Value} {r:List En} (hi:pre.length=i) (hbi:Nat.blt i 100000=true) (hv:v0=v.val cs) (h2:cr β ρ (okR X β ρ S.flat.mem w) w false v cs)
   (h6:∀e∈r,(enD β ρ ⟨(pre++[v0]++vs).toArray,[]⟩ e).p (okR X β ρ S.flat.mem w) w):∀e∈(⟨i,[],v⟩::r:List En),(enD β ρ ⟨(pre++v0::vs).toArray,[]⟩ e).p (okR X β ρ S.flat.mem w) w:=by
  intro e hm
  have hl:pre++[v0]++vs=pre++(v0::vs):=by simp
  rw[hl]at h6
  rcases QX.1 hm with rfl | hm
  ·refine⟨fun _=>⟨cs,?_,h2⟩,.inl (Qf _)⟩
   rw[R5 hbi]
   grind
  ·exact h6 e hm
theorem Qn4:∀{l:List (Nat×Sk)} {i:Nat} {vs:List DV},Dm l i=true→∀(j:Nat) e,(L0 l vs).1[j]?=some e→e.t=i+j∧e.cs=[]
 | [],i,vs,_,j,e,h=>by simp[L0]at h
 | (t,s)::l,i,vs,hk,j,e,h=>by
  simp only[Dm,QQ]at hk
  simp only[L0]at h
  cases j with
  | zero =>
   simp at h; subst h
   simp_all
  | succ j =>
   obtain⟨h1,h2⟩:=Qn4 hk.2 j e (by simpa using h)
   grind
theorem Ow:∀{l:List (Nat×Sk)} {vs:List DV},(L0 l vs).1.length=l.length
 | [],vs=>rfl
 | (t,s)::l,vs=>by simp only[L0,List.length_cons,Ow]
theorem Q4z{gl:List (Nat×Σ t:Ty,t.De)}{ok ok':Ok}{w:World}{β:Nat→Nat}{ρ:Nat→Value}{a:Act}(h:Ur gl ok w)(hk:∀b o,ok b o→ok' b o):∀e∈Qfj gl,(enD β ρ a e).p ok' w:=by
 intro e he
 obtain⟨q,hq,rfl⟩:=QK.1 he
 refine⟨fun _=>⟨[.pointer (some ⟨q.1,0,none⟩)],Q89 a q.1,_,rfl,(h q hq).1.weak hk⟩,.inl (Qf a)⟩
theorem Qhz{P:Program}{gl:List (Nat×Σ t:Ty,t.De)}{c:Con}(h:∀x,c.fn x=none):Qa3 P gl c:=fun ok w L β ρ x y vs _ _ _ _ _ hy=>by rw[h]at hy; cases hy
def S00(Y:TX)(c:Con)(x:c.Γ.De):XS:=⟨(enc c.Γ x).env,Qfj Y.gl,wrM c.ro (enc c.Γ x).mem,rdM c.ro (enc c.Γ x).mem,c.Γ.mem.map Prod.fst⟩
theorem Jrk{ro:List Nat}:∀(M:List (Nat×Ob)),M.Perm (wrM ro M++rdM ro M)
 | []=>.nil
 | q::l=>by
  have ih:=Jrk (ro:=ro) l
  unfold wrM rdM at *
  cases hm:Yi ro q.1 with
  | true =>
   simp only[XM,hm,Bool.not_true,JZ,if_false,if_true]
   exact(List.Perm.cons q ih).trans List.perm_middle.symm
  | false =>
   simp_all
def Jyk(Y:TX)(fn:Func)(c:Con):Ex→XS→Option (Qaz c.Δ):=fun e S=>match e with
 | .x _=>none
 | .n=>fin Y fn c.Δ S
 | .r=>fin Y fn c.Δ S
theorem Jcl{fn:Func}{c:Con}(hku:Dm c.Γ.env 0=true)(hks:Nat.blt c.Γ.env.length 100000=true){ok:Ok}{w:World}{L:List Nat}{β:Nat→Nat}{ρ:Nat→Value}{x:c.Γ.De}{vs:List Value}{a:Act}(hok:∀b o,ok b o→b<w.heap.size)(hG:Ur Y.gl ok w)(hL:Qle (Qk β ρ (enc c.Γ x).mem) L ok w)
  (hargs:∀e∈(enc c.Γ x).env,∃cs,vs[e.t]?=some (e.av.val cs)∧cr β ρ ok w false e.av cs) (h0:Sb (fun _=>0) (cxL L fn.ntmps ok w) (Q28 vs 0) [] [] (Qk β ρ (enc c.Γ x).mem) a w):Rel (cxL L fn.ntmps ok w) β ρ (S00 Y c x).flat a w:=by
 have hp:=(Jrk (ro:=c.ro) (enc c.Γ x).mem).map fun q=>Qv β ρ q.1 q.2
 have hk0:∀b o,ok b o→okR (cxL L fn.ntmps ok w) β ρ (wrM c.ro (enc c.Γ x).mem++rdM c.ro (enc c.Γ x).mem) w b o:=fun b o hbo=>⟨.inl (.inl hbo),hok b o hbo,by simp,fun t ht hc=>(hL.1 t (hp.mem_iff.2 ht)).2.2 b o (t.cb hc) hbo⟩
 have hR:Rel (cxL L fn.ntmps ok w) β ρ (XS.flat (S00 Y c x)) a w:=by
  have e:XS.flat (S00 Y c x)=⟨(enc c.Γ x).env++Qfj Y.gl,wrM c.ro (enc c.Γ x).mem++rdM c.ro (enc c.Γ x).mem⟩:=rfl
  rw[e]
  replace h0:=Sb.perm h0 hp
  refine Rel.ofSb h0 rfl fun e he=>?_
  rcases QZ.1 he with he | he
  case inr=>grind [Q4z]
  obtain⟨cs,h1,h2⟩:=hargs e he
  have hcs:e.cs=[]:=by
   grind [enc,Qn0]
  refine⟨fun _=>⟨cs,?_,Gp h2 hk0⟩,.inl (by rw[hcs]; exact Qf a)⟩
  have hz:∀{us:List Value} {i j:Nat} {v:Value},us[j]?=some v→(i+j,Gd.AV.v v)∈Q28 us i:=by
   intro us
   induction us with
   | nil=>grind
   | cons u us ih =>
    intro i j v h
    cases j with
    | zero=>simp at h; subst h; exact .head _
    | succ j =>
     have:=ih (i:=i+1) (j:=j) (v:=v) (by simpa using h)
     rw[show i+(j+1)=i+1+j by omega]
     exact .tail _ this
  have hsm:Nat.blt e.t 100000=true:=by
   obtain⟨j,hj⟩:=List.getElem?_of_mem he
   have hk2:e.t=0+j:=by
    grind [enc,Qn4,toL]
   have hjl:j<c.Γ.env.length:=by
    have h4:=(List.getElem?_eq_some_iff.1 hj).1
    grind [enc,Ow,toL]
   have:=QV hks
   rw[hk2]
   exact Nat.ble_eq_true_of_le (by omega)
  have:=h0.tm _ (hz (i:=0) h1)
  rw[R5 hsm]
  grind [Mp]
 exact hR
theorem Jcm{es:List En}{S:XS}:∀{l:List Shp} {y:Qaz l},Jjs es S l=some y→∃s x,Dm s.env 0=true∧es.length=s.env.length∧S.dec s=some x∧Qh7 l y=enc s x
 | [s],y,h=>by
  simp only[Jjs]at h
  obtain⟨hb,h⟩:=bvT h
  simp only[QQ]at hb
  exact⟨s,y,hb.1,Nat.eq_of_beq_eq_true hb.2,h,rfl⟩
 | s::r::l,y,h=>by
  simp only[Jjs]at h
  split at h
  ·rename_i x hx
   injection h with h
   subst h
   obtain⟨hb,hx⟩:=bvT hx
   simp only[QQ]at hb
   exact⟨s,x,hb.1,Nat.eq_of_beq_eq_true hb.2,hx,rfl⟩
  ·split at h
   ·rename_i y0 hy
    injection h with h
    subst h
    obtain⟨s0,x0,h1,h2,h3,h4⟩:=Jcm hy
    exact⟨s0,x0,h1,h2,h3,h4⟩
   ·cases h
theorem Jcn(hT:Qy P Y.T){fn:Func}{c:Con}{ok:Ok}{w:World}{L:List Nat}{β:Nat→Nat}{ρ:Nat→Value}{x:c.Γ.De}{y:Qaz c.Δ}{β':Nat→Nat}{ρ':Nat→Value}{S':XS}{a':Act}{w':World}
  (h2:Vb (S00 Y c x) S' β β' ρ ρ') (h3:Rel (cxL L fn.ntmps ok w) β' ρ' S'.flat a' w'):fin Y fn c.Δ S'=some y→bodyPost P fn (Qzl L w (Q4k c β ρ ok L w x y)) .ret a' w':=by
 intro hfin
 unfold fin at hfin
 split at hfin
 ·rename_i es hes
  obtain⟨hkb,hd⟩:=bvT hfin
  have hksm:=QV hkb
  obtain⟨s,x1,hku,hel,hd,henc⟩:=Jcm hd
  obtain⟨rv,r1,r2,r3,r4⟩:=Q0h hT h3 [] rfl hes
  simp only[QE]at r4
  have hRes:Rel { cxL L fn.ntmps ok w with n:=rv.length } β' ρ' (XS.flat ⟨es,[],S'.mem,S'.fixM,S'.prot⟩) ⟨rv.toArray,[]⟩ w':=by
   have e:XS.flat ⟨es,[],S'.mem,S'.fixM,S'.prot⟩=⟨es,S'.flat.mem⟩:=by simp[XS.flat]
   rw[e]
   have hSb:Sb (fun _=>0) { cxL L fn.ntmps ok w with n:=rv.length } [] [] [] (Qk β' ρ' S'.flat.mem) ⟨rv.toArray,[]⟩ w' :=
    { sz:=by simp,df:=rfl,fr:=by simp,pn:=by simp,tm:=by simp,bel:=h3.bel,dat:=trivial,obj:=by simp,own:=h3.own,dHH:=by simp,dHO:=by simp,dOO:=h3.dOO }
   exact Rel.ofSb hSb rfl fun e he=>r4 e he
  obtain⟨β2,ρ2,h4,h5⟩:=XS.dec_ok hRes hd
  have hfm:S'.fixM=roM c x:=h2.fixM
  have hpr:S'.prot=c.Γ.mem.map Prod.fst:=h2.prot
  rw[hfm]at h5
  have hfacts:∀(j:Nat) e,(enc s x1).env[j]?=some e→∃cs,rv[j]?=some (e.av.val cs)∧cr β2 ρ2 (Jn (okL L ok) w.heap.size (fun _=>0) [] (Qk β2 ρ2 ((enc s x1).mem++roM c x)) w') w' false e.av cs:=by
   intro j e he
   have hk2:e.t=0+j∧e.cs=[]:=by
    grind [enc,Qn4,toL]
   have hen:=h5.en (List.mem_append_left _ (List.mem_of_getElem? he))
   obtain⟨cs,q1,q2⟩:=hen.1 (by rw[hk2.2]; exact Qf _)
   rw[hk2.1,QW]at q1
   have hjl:j<s.env.length:=by
    have h4:=(List.getElem?_eq_some_iff.1 he).1
    grind [enc,Ow,toL]
   rw[R5 (Nat.ble_eq_true_of_le (by omega))]at q1
   grind
  have hlenE:(enc s x1).env.length=rv.length:=by
   grind [enc,Ow,toL]
  have hres:(results fn a'.tmps).run P w'=.ok (if h:rv.toArray.size=1 then rv.toArray[0]else .tuple rv.toArray) w':=by
   unfold results
   rw[ZV]
   simp only[Sem.run_bind,Sem.run_map,bind_pure_comp]
   exact congrArg (fun z:Result (List Value)=>(z.andThen fun a w'=>Result.ok a.toArray w').andThen fun a w'=>Result.ok (if h:a.size=1 then a[0]else Value.tuple a) w') r3
  refine⟨h3.df,_,hres,_,rfl,?_,h3.bel⟩
  unfold Q4k
  rw[henc]
  refine⟨β2,ρ2,?_,?_,?_,?_⟩
  ·exact agP.trans h2.ag (by rw[←hpr]; exact h4)
  ·by_cases hl1:rv.length=1
   ·obtain⟨e0,he0⟩:=List.length_eq_one_iff.1 (hlenE.trans hl1)
    obtain⟨cs,q1,q2⟩:=hfacts 0 e0 (by rw[he0]; rfl)
    have hra:Qa0 (enc s x1).env=e0.av:=by rw[he0]; rfl
    rw[hra]
    grind
   ·have hra:Qa0 (enc s x1).env=.tp (Qw4 (enc s x1).env):=by
     unfold Qa0
     grind
    rw[hra]
    refine⟨[.tuple rv.toArray],?_,rv,rfl,?_⟩
    ·rw[dif_neg (by simpa using hl1)]; rfl
    ·exact Q4q (i:=0) hfacts hlenE.symm
  ·exact fun t ht=>h5.own t ht
  ·exact h5.dOO
 ·cases hfin
theorem Jco(hT:Qy P Y.T){f:FuncId}{fn:Func}(hf:P.funcs[f]?=some fn){c:Con}(hcf:c.f=f){code:Code}(hb:fn.body=some code)(hble:Nat.ble c.Γ.env.length fn.ntmps=true)(hku:Dm c.Γ.env 0=true)(hks:Nat.blt c.Γ.env.length 100000=true)
  (hway:∀(x:c.Γ.De) (y:Qaz c.Δ) (X:Cx) (β:Nat→Nat) (ρ:Nat→Value) (a:Act) (w:World) (Q:Exit→Act→World→Prop),c.fn x=some y→Ur Y.gl (okN X) X.w→X.n=fn.ntmps→X.res=[]→X.pin=none→Rel X β ρ (S00 Y c x).flat a w→COk Q X (S00 Y c x) β ρ (Jyk Y fn c) y→code.wp P Q a w):Qa3 P Y.gl c:=by
 intro ok w L β ρ x y vs hok hG hlen hL hargs hy
 rw[hcf]
 refine Jfb (n:=fn.ntmps) (L:=L) (O:=Qk β ρ (enc c.Γ x).mem) (D:=[]) hok hf hb rfl (by rw[hlen]; exact hble) trivial hL fun a h0=>?_
 have hR:=Jcl (Y:=Y) (fn:=fn) hku hks hok hG hL hargs h0
 refine hway x y _ β ρ a w _ hy (hG.weak fun b o hbo=>⟨.inl hbo,fun hbl=>hL.2.2 b hbl |>.elim fun t ht=>(hL.1 t ht.1).2.2 b o ht.2 hbo,hok b o hbo⟩) rfl rfl rfl hR fun e β' ρ' S' a' w' h1 h2 h3=>?_
 have key:=Jcn (y:=y) hT h2 h3
 cases e with
 | n=>exact key h1
 | x i=>cases h1
 | r=>exact key h1
theorem Jpm(hT:Qy P Y.T)(hmix:P.follows .mixedOrders=true)(hK:Q4r P Y.gl K){f:FuncId}{fn:Func}(hf:P.funcs[f]?=some fn){an:An}{c:Con}(hcf:c.f=f)(hrun:∀x,c.fn x=Jjt Y K N fn an c.ro c.Γ c.Δ x):Qa3 P Y.gl c:=by
 cases hb:fn.body with
 | none =>
  grind [Qhz,Jjt]
 | some code =>
  by_cases hc:(Nat.ble c.Γ.env.length fn.ntmps&&(Dm c.Γ.env 0&&Nat.blt c.Γ.env.length 100000))=true
  ·have hc':=hc
   simp only[QQ]at hc'
   refine Jco hT hf hcf hb hc'.1 hc'.2.1 hc'.2.2 fun x y X β ρ a w Q hy hG hX hr hp hR H=>?_
   rw[hrun]at hy
   unfold Jjt at hy
   rw[hb,hc]at hy
   exact Zb hT hmix ⟨hK,hG⟩ hX hr hp an hR hy H
  ·refine Qhz fun x=>?_
   rw[hrun]
   unfold Jjt
   rw[hb]
   grind
end
end Gx
namespace Gx
open Go
theorem Jw0{P:Program}{gl:List (Nat×Σ t:Ty,t.De)}:Q4r P gl []:=fun _ h=>by cases h
theorem Juq{P:Program}{c:Con}{gl:List (Nat×Σ t:Ty,t.De)}{K:List Con}(h:Qa3 P gl c)(hr:Gd.Runs P c.f)(hk:Q4r P gl K):Q4r P gl (c::K):=fun d hd=>by
 rcases QX.1 hd with rfl | hd
 ·exact⟨h,hr⟩
 ·exact hk d hd
end Gx

/- The rest of the state set aside; objects that are no cells; pieces of code in a round. -/
namespace Gx
open Go Go.RowKit Gd
set_option linter.unusedVariables false
set_option linter.unusedSimpArgs false
section
variable {P:Program} {Y:TX} {X:Cx} {β β':Nat→Nat} {ρ ρ':Nat→Value} {S S':St} {a a':Act} {w w':World}
noncomputable def reX(X:Cx)(β:Nat→Nat)(ρ:Nat→Value)(M:List (Nat×Ob))(w:World):Cx :=
 { cxL (Bn w.heap.size (Qk β ρ M)) X.n (okR X β ρ M w) w with dfs:=X.dfs }
theorem Kt{n:Nat}{O:List TL}{g:Nat}:g∈Bn n O↔g<n∧∃t∈O,t.blks g:=by
 simp_all [Bn,QN,JH,decide_eq_true_eq]
theorem Jur{M:List (Nat×Ob)}(hV:Wo M=true):∀t∈Qk β ρ M,∀b o,t.blks b→t.cov b o:=fun t ht b o hb=>by
 obtain⟨q,hq,rfl⟩:=QK.1 ht
 grind [Qj5]
theorem Q0i{gl:List (Nat×Σ t:Ty,t.De)}(hG:Ur gl (okN X) X.w)(h:Rel X β ρ S a w)(hV:Wo S.mem=true) :
    Rel (reX X β ρ S.mem w) β ρ S a w∧Ur gl (okN (reX X β ρ S.mem w)) (reX X β ρ S.mem w).w:=by
  have hL1:∀t∈Qk β ρ S.mem,∀g,t.blks g→g∈Bn w.heap.size (Qk β ρ S.mem):=fun t ht g hg=>Kt.2 ⟨h.olt ht hg,t,ht,hg⟩
  have hk:∀b f,Jn X.ok X.w.heap.size (fun _=>0) [] (Qk β ρ S.mem) w b f→Jn (okL (Bn w.heap.size (Qk β ρ S.mem)) (Jn X.ok X.w.heap.size (fun _=>0) [] (Qk β ρ S.mem) w)) w.heap.size (fun _=>0) [] (Qk β ρ S.mem) w b f :=
    fun b f hbo=>⟨.inl (.inl hbo),hbo.2.1,by simp,fun t ht hc=>hbo.2.2.2 t ht hc⟩
  refine⟨?_,?_⟩
  · exact { sz:=h.sz,df:=h.df,fr:=by simp[reX],pn:=by simp[reX],tm:=by simp,bel:=Zt.refl _ _ _,obj:=by simp,dHH:=by simp,dHO:=by simp,
            dat:=Yf.2 fun x hx=>by
              obtain⟨e,he,rfl⟩:=QK.1 hx
              exact(enD β ρ a e).weak (Yf.1 h.dat _ (QK.2 ⟨e,he,rfl⟩)) hk,
            own:=fun t ht=>⟨t.weak (h.own t ht).1 hk,fun g hg=>.inr (hL1 t ht g hg)⟩,
            dOO:=h.dOO }
  · exact(Qa2 h hG).weak fun b f hbo=>⟨.inl hbo,fun hbl=>by
      obtain⟨_,t,ht,hg⟩:=Kt.1 hbl
      exact hbo.2.2.2 t ht (Jur hV t ht b f hg),hbo.2.1⟩
theorem Q0j(h:Rel X β ρ S a w)(hV:Wo S.mem=true)(hr:X.res=[])(hp:X.pin=none)(hR:Rel (reX X β ρ S.mem w) β' ρ' S' a' w'):Rel X β' ρ' S' a' w':=by
 have hL2:∀g∈Bn w.heap.size (Qk β ρ S.mem),∃t∈Qk β ρ S.mem,t.blks g:=fun g hg=>(Kt.1 hg).2
 have hS:Sb (fun _=>0) X [] (S.env.map (enD β ρ a)) [] (Qk β ρ S.mem++[]) a w:=by rw[QG]; exact h
 have eo:Jn X.ok X.w.heap.size (fun _=>0) [] (Qk β ρ S.mem++[]) w=Jn X.ok X.w.heap.size (fun _=>0) [] (Qk β ρ S.mem) w:=by rw[QG]
 have hC:=Sb.callO (O1':=Qk β' ρ' S'.mem) (w':=w') (L:=Bn w.heap.size (Qk β ρ S.mem)) hS hR.bel hL2 (Jur hV) (fun t ht=>⟨by rw[eo]; exact(hR.own t ht).1,fun g hg=>(hR.own t ht).2 g hg⟩) hR.dOO
 rw[QG]at hC
 have hC3:Sb (fun _=>0) X [] [] [] (Qk β' ρ' S'.mem) a' w' :=
  { sz:=hR.sz,df:=hR.df,fr:=by rw[hr]; simp,pn:=by rw[hp]; simp,tm:=by simp,bel:=hC.bel,dat:=trivial,obj:=by simp,own:=hC.own,dHH:=by simp,dHO:=by simp,dOO:=hC.dOO }
 refine Rel.ofSb hC3 rfl fun e he=>?_
 have h1:=Yf.1 hR.dat _ (QK.2 ⟨e,he,rfl⟩)
 refine(enD β' ρ' a' e).weak h1 fun b f hbf=>?_
 have h2:=Qhs (O1':=Qk β' ρ' S'.mem) hS hR.bel.size hL2 b f (by rw[eo]; exact hbf)
 rw[QG]at h2
 exact h2
theorem Q0k{e sz:Nat}{v:Value}{n:Nat}{xs:List Value}(h:w.ownsRowS 0 e sz v n xs){g:Nat}(hg:v.ownBlock=some g):∃o:Obj,w.heap[g]?=some o∧(o.isCells=true∨∃es c,o=.map es c):=by
 rcases h.2 with⟨rfl,_⟩ | ⟨g',cap,cur,fz,rfl,_,hh,_⟩
 ·cases hg
 ·have hg:some g'=some g:=hg
  injection hg with hg; subst hg
  exact⟨_,hh,.inl rfl⟩
theorem Qxu{κ:Type}{c:CK}{hole:Option κ}{hv:Value}{ok:Ok}:∀{xs:List (κ×c.ty.De)} {ys:List (κ×Value)} {vs:List Value},Dh c hole hv ok w xs ys vs→∀v∈vs,∀g,Xm v=some g→∃o:Obj,w.heap[g]?=some o∧(o.isCells=true∨∃es c,o=.map es c)
 | [],[],[],h=>by simp
 | x::xs,y0::ys,v::vs,⟨h1,h3,h4⟩=>by
  intro y hy g hg
  rcases QX.1 hy with rfl | hy
  ·rcases h3 with⟨_,rfl,_⟩ | ⟨_,_,h3⟩
   ·cases hg
   ·cases c with
    | sl e u =>
     obtain⟨_,cs,h3,_⟩:=h3
     grind [Q0k,Qfb]
    | mp k v =>
     obtain⟨g',rfl,es,c,h1,_⟩:=h3
     injection hg with hg
     grind
  ·exact Qxu h4 y hy g hg
 | [],[],_::_,h=>h.elim
 | [],_::_,_,h=>h.elim
 | _::_,[],_,h=>h.elim
 | _::_,_::_,[],h=>h.elim
theorem Jkk{ok:Ok}{id:Nat}{o:Ob}(h:(Qv β ρ id o).p ok w){g:Nat}(hg:(Qv β ρ id o).blks g):∃o:Obj,w.heap[g]?=some o∧(o.isCells=true∨∃es c,o=.map es c):=by
 cases o with
 | var tid c =>
  obtain⟨cs,h1,_⟩:=h
  have hg:g=β id:=hg
  subst hg
  exact⟨_,h1,.inl rfl⟩
 | row e t xs =>
  obtain⟨_,cs,h1,_⟩:=h
  exact Q0k h1 hg
 | tail e t xs =>
  obtain⟨_,ys,h1⟩:=h
  exact Q0k h1 hg
 | map k v xs =>
  obtain⟨es,c,h1,_⟩:=h
  have hg:g=β id:=hg
  grind
 | mapC k v xs hole =>
  obtain⟨ys,⟨es,c,h1,_⟩,h2,_⟩:=h
  rcases hg with hg | ⟨v,hv,hg⟩
  ·grind
  grind [Qxu]
 | mapE k v xs key j =>
  obtain⟨es,c,h1,_⟩:=h
  have hg:g=β id:=hg
  grind
theorem Rel.notOwn(h:Rel X β ρ S a w){g:Nat}{o:Obj}(ho:w.heap[g]?=some o)(hc:o.isCells=false)(hm:∀es c,o≠.map es c):∀t∈Qk β ρ S.mem,¬ t.blks g:=fun t ht hg=>by
 obtain⟨q,hq,rfl⟩:=QK.1 ht
 obtain⟨o',h1,h2⟩:=Jkk (h.own _ ht).1 hg
 rw[ho]at h1
 grind
theorem Jgi{g o:Nat}{ob:Obj}(h:w.heap[g]?=some ob)(hc:ob.isCells=false):w.cell? ⟨g,o,none⟩=none:=by
 grind [World.cell?,Obj.isCells]
theorem Rel.turn(h:Rel X β ρ S a w){g:Nat}{o o':Obj}(hB:X.w.heap.size≤g)(ho:w.heap[g]?=some o)(hc:o.isCells=false)(hm:∀es c,o≠.map es c)(hc':o'.isCells=false):Rel X β ρ S a (w.putObj g o'):=by
  have hn:=h.notOwn ho hc hm
  have hsame:∀b,b≠g→(w.putObj g o').heap[b]?=w.heap[b]?:=fun b hb=>World.putObj_heap_other hb
  have hlt:=(Array.getElem?_eq_some_iff.1 ho).1
  have hevo:Evo (Jn X.ok X.w.heap.size (fun _=>0) [] (Qk β ρ S.mem) w) w (w.putObj g o') :=
    ⟨by simp,fun b f _=>by
      grind [Jgi,World.putObj_heap_same,World.cell?_of_block],fun b es c _ hb=>by
      have hne:b≠g:=fun e=>by grind
      rw[hsame b hne]; exact hb⟩
  have hok:∀b f,Jn X.ok X.w.heap.size (fun _=>0) [] (Qk β ρ S.mem) w b f→Jn X.ok X.w.heap.size (fun _=>0) [] (Qk β ρ S.mem) (w.putObj g o') b f:=fun b f ⟨h1,h2,h3,h4⟩=>⟨h1,by simpa using h2,h3,h4⟩
  exact { sz:=h.sz,df:=h.df,fr:=h.fr,pn:=h.pn,tm:=h.tm,bel:=h.bel.trans ⟨rfl,rfl,rfl,by simp,fun k hk _=>hsame k (by omega)⟩,dat:=(h.dat.evo hevo).weak hok,obj:=by simp,
          own:=fun t ht=>⟨t.weak (t.keep (h.own t ht).1 (fun b hb=>hsame b fun e=>hn t ht (e▸hb)) hevo) hok,(h.own t ht).2⟩,dHH:=by simp,dHO:=by simp,dOO:=h.dOO }
theorem Rel.withD(h:Rel X β ρ S a w)(ds:List Deferred):Rel { X with dfs:=ds } β ρ S { a with defers:=ds } w :=
 { sz:=h.sz,df:=rfl,fr:=h.fr,pn:=h.pn,tm:=h.tm,bel:=h.bel,dat:=h.dat,obj:=h.obj,own:=h.own,dHH:=h.dHH,dHO:=h.dHO,dOO:=h.dOO }
end
def L2(ds:List Nat)(a a':Act):Prop:=∀t,t∉ds→a'.tmps[t]?=a.tmps[t]?
theorem L2.put{ds:List Nat}{a0 a:Act}(h:L2 ds a0 a){o:Option Nat}(ho:∀d,o=some d→d∈ds)(v:Value):L2 ds a0 (a.put o v):=fun t ht=>by
 cases o with
 | none=>exact h t ht
 | some d=>rw[Vj (fun e=>ht (by grind))]; exact h t ht
abbrev Qi6(ro:Option Nat):Fence:={ Fence.wide with round:=ro }
def QL(ds:List Nat)(a0:Act)(Z:Act→World→Prop)(Q:Exit→Act→World→Prop):Exit→Act→World→Prop
 | .normal,a',w'=>L2 ds a0 a'→Z a' w'
 | e,a',w'=>Q e a' w'
def QS(ds:List Nat)(a0:Act)(Q:Exit→Act→World→Prop):Exit→Act→World→Prop:=QL ds a0 (Q .normal) Q
def Qcv:List Oper→Bool
 | []=>true
 | o::l=>(match o.op with
  | .defer _=>false
  | _=>true)&&Qcv l
def Wi:List Oper→List Nat
 | []=>[]
 | o::l=>match o.dst with
  | some d=>d::Wi l
  | none=>Wi l
theorem Q0l{P:Program}{row:String}{args:Array Value}{w:World}{R:Value→World→Prop}(ro:Option Nat)(m:Nat)(h:Rows P row args w R):RowsIn (Qi6 ro) m P row args w R :=
 fun c cs _=>let⟨v,w',r,s⟩:=h c cs; ⟨v,w',r,(stepsIn_wide.2 s:StepsIn (Machine.fenced P Fence.wide) P _ _)⟩
theorem Qv1{P:Program}{f:FuncId}{args:Array Value}{w:World}{R:Ending→World→Prop}(ro:Option Nat)(m:Nat)(h:Calls P f args w R):CallsIn (Qi6 ro) m P f args w R:=(callsIn_wide.2 h:CallsIn Fence.wide m P f args w R)
theorem Qn5{P:Program}{ops:Array Oper}{Q:Exit→Act→World→Prop}{ro:Option Nat}{m:Nat}{ds:List Nat}{a0:Act}{Z:Act→World→Prop}{tl:List Oper}(hQ:¬ LetsOut Q)(hZ:∀a w,Z a w→wpListIn (Qi6 ro) m P ops Q tl a w):∀(os:List Oper),Qcv os=true→(∀d∈Wi os,d∈ds)→∀(a:Act) (w:World),L2 ds a0 a→wpList P ops (QL ds a0 Z Q) os a w→wpListIn (Qi6 ro) m P ops Q (os++tl) a w
 | [],_,_,a,w,hs,h=>hZ a w (h hs)
 | o::os,hn,hd,a,w,hs,h=>by
  simp only[Qcv,QQ]at hn
  have hod:∀d,o.dst=some d→d∈ds:=fun d e=>hd d (by simp[Wi,e])
  have hd2:∀d∈Wi os,d∈ds:=fun d hm=>hd d (by grind [Wi])
  have ih:∀(a:Act) (w:World),L2 ds a0 a→wpList P ops (QL ds a0 Z Q) os a w→wpListIn (Qi6 ro) m P ops Q (os++tl) a w:=fun a w=>Qn5 hQ hZ os hn.2 hd2 a w
  unfold wpList at h
  rw[QF]
  unfold wpListIn
  split at h
  ·rename_i hw
   rw[if_pos hw]
   refine⟨fun _ _=>trivial,?_⟩
   have hnd:∀c,o.op≠.defer c:=fun c hc=>by
    have:=hn.1
    rw[hc]at this; cases this
   have hsem:Oper.semAt (Qi6 ro).round a.eval o=execOp a.eval o:=by
    cases ro with
    | none=>exact Oper.semAt_none _ _
    | some l=>grind [Oper.semAt_some]
   rw[hsem]
   rcases h with h | ⟨_,h⟩
   ·unfold Oper.wp at h
    cases hr:(execOp a.eval o).run P w with
    | ok nx w' =>
     rw[hr]at h
     cases nx with
     | value v=>exact ih _ _ (hs.put hod v) h
     | skip=>exact ih _ _ (hs.put hod undef) h
     | defer d=>exact ih _ _ (L2.put (a:={ a with defers:=d::a.defers }) hs hod undef) h
     | enter f args =>
      refine⟨fun hd=>(by have h0:(Qi6 ro).depth.isSome=false:=rfl; rw[h0]at hd; cases hd),?_⟩
      refine Qv1 ro _ (Calls.mono h fun e w' he=>?_)
      cases e with
      | returned v=>exact ih _ _ (hs.put hod v) he
      | panicked c=>exact he
      | outgrown=>exact he
     | row rw' args =>
      exact⟨fun hd=>(by have h0:(Qi6 ro).depth.isSome=false:=rfl; rw[h0]at hd; cases hd),Q0l ro _ (Rows.mono h fun v w' hv=>ih _ _ (hs.put hod v) hv)⟩
     | _=>exact h.elim
    | halt hl w' =>
     rw[hr]at h
     cases hl with
     | panic v=>exact h
     | _=>exact h.elim
   ·exact absurd (show LetsOut Q from h) hQ
  ·rename_i hw
   rw[if_neg hw]
   exact⟨fun _ _=>trivial,ih _ _ (hs.put hod undef) h⟩
theorem Qxv{P:Program}{ops:Array Oper}{Q:Exit→Act→World→Prop}{ro:Option Nat}{m:Nat}{ds:List Nat}{a0:Act}(hQ:¬ LetsOut Q)(os:List Oper)(hn:Qcv os=true)(hd:∀d∈Wi os,d∈ds)(a:Act)(w:World)(hs:L2 ds a0 a)(h:wpList P ops (QS ds a0 Q) os a w):wpListIn (Qi6 ro) m P ops Q os a w:=by
 have:=Qn5 (ro:=ro) (m:=m) (Z:=Q .normal) (tl:=[]) hQ (fun a w hz=>hz) os hn hd a w hs h
 rwa[QG]at this
def rb:An→Code→Bool
 | .nil,.skip=>true
 | .reg _,.region _ ⟨ops⟩ false=>Qcv ops
 | .two a b,.seq x y=>rb a x&&rb b y
 | .two a b,.cond _ x y=>rb a x&&rb b y
 | .un a,.block _ c=>rb a c
 | .gh _ a,c=>rb a c
 | _,_=>false
def Kn:Code→List Nat
 | .region _ ⟨ops⟩ _=>Wi ops
 | .seq x y=>Kn x++Kn y
 | .cond _ x y=>Kn x++Kn y
 | .block _ c=>Kn c
 | _=>[]
section
variable {P:Program} {Y:TX} {X:Cx} {n N:Nat} {K:List Con}
theorem Sd(hT:Qy P Y.T)(hmix:P.follows .mixedOrders=true)(hK:KsX P Y X K)(hX:X.n=n)(hr:X.res=[])(hpin:X.pin=none){ro:Option Nat}{m:Nat}{ds:List Nat}{a0:Act}:∀{R:Type} {r:R} (an:An) {c:Code} {S:XS} {β:Nat→Nat} {ρ:Nat→Value} {a:Act} {w:World} {k:Ex→XS→Option R} {Q:Exit→Act→World→Prop},
  rb an c=true→¬ LetsOut Q→(∀d∈Kn c,d∈ds)→L2 ds a0 a→Rel X β ρ S.flat a w→Ut Y K n N an c S k=some r →
  (∀(e:Ex) (β':Nat→Nat) (ρ':Nat→Value) (S':XS) (a':Act) (w':World),k e S'=some r→Vb S S' β β' ρ ρ'→Rel X β' ρ' S'.flat a' w'→L2 ds a0 a'→Q e.exit a' w')→c.wpIn (Qi6 ro) m P Q a w
 | R,r,.nil,c,S,β,ρ,a,w,k,Q,hb,hQ,hd,ha,h,hs,H=>by
  cases c<;>first | (cases hb; done) | skip
  simp only[Ut]at hs
  exact wpIn_skip (H .n β ρ S a w hs (Vb.refl _ _ _) h ha)
 | R,r,.reg hn,c,S,β,ρ,a,w,k,Q,hb,hQ,hd,ha,h,hs,H=>by
  cases c with
  | region id ops draw =>
   obtain⟨ops⟩:=ops
   cases draw with
   | true=>cases hb
   | false =>
    simp only[Ut]at hs
    refine wpIn_region_list ?_
    have:=Vu hT hK hX hr (Q:=QS ds a0 Q) hn (l:=ops) (rest:=[]) h hs fun β' ρ' S' a' w' h1 h2 h3=>fun hsame=>H .n β' ρ' S' a' w' h1 h2 h3 hsame
    rw[QG]at this
    exact Qxv hQ ops hb hd a w ha this
  | _=>cases hb
 | R,r,.two x y,c,S,β,ρ,a,w,k,Q,hb,hQ,hd,ha,h,hs,H=>by
  cases c<;>first | (cases hb; done) | skip
  ·rename_i c1 c2
   simp only[Ut]at hs
   simp only[rb,QQ]at hb
   refine wpIn_seq (Sd hT hmix hK hX hr hpin x hb.1 hQ (fun d hm=>hd d (List.mem_append_left _ hm)) ha h hs fun e β' ρ' S' a' w' h1 h2 h3 h4=>?_)
   cases e with
   | n=>exact Sd hT hmix hK hX hr hpin y hb.2 hQ (fun d hm=>hd d (List.mem_append_right _ hm)) h4 h3 h1 fun e β2 ρ2 S2 a2 w2 q1 q2 q3 q4=>H e β2 ρ2 S2 a2 w2 q1 (h2.trans q2) q3 q4
   | x i=>exact H (.x i) β' ρ' S' a' w' h1 h2 h3 h4
   | r=>exact H .r β' ρ' S' a' w' h1 h2 h3 h4
  ·rename_i co c1 c2
   simp only[Ut]at hs
   simp only[rb,QQ]at hb
   split at hs
   ·rename_i v hv
    obtain⟨cs,h1,h2⟩:=h.ev (Qf a) hv
    have h2':cs=_:=h2
    subst h2'
    have h1':a.eval co=.bool v:=h1
    refine wpIn_cond h1' ?_
    cases v with
    | true =>
     rw[if_pos rfl]at hs ⊢
     exact Sd hT hmix hK hX hr hpin x hb.1 hQ (fun d hm=>hd d (List.mem_append_left _ hm)) ha h hs H
    | false =>
     rw[if_neg (by simp)]at hs ⊢
     exact Sd hT hmix hK hX hr hpin y hb.2 hQ (fun d hm=>hd d (List.mem_append_right _ hm)) ha h hs H
   ·cases hs
 | R,r,.un x,c,S,β,ρ,a,w,k,Q,hb,hQ,hd,ha,h,hs,H=>by
  cases c<;>first | (cases hb; done) | skip
  rename_i id c1
  simp only[Ut]at hs
  have hQ2:¬ LetsOut (Exit.inBlock id Q):=hQ
  refine wpIn_block (Sd hT hmix hK hX hr hpin x hb hQ2 hd ha h hs fun e β' ρ' S' a' w' h1 h2 h3 h4=>?_)
  cases e with
  | n=>exact H .n β' ρ' S' a' w' h1 h2 h3 h4
  | x i =>
   simp only at h1
   show if i=id then Q .normal a' w' else Q (.exit i) a' w'
   cases hb:Nat.beq i id with
   | true =>
    rw[hb]at h1
    rw[if_pos (Nat.eq_of_beq_eq_true hb)]
    exact H .n β' ρ' S' a' w' h1 h2 h3 h4
   | false =>
    rw[hb]at h1
    rw[if_neg (fun e=>by rw[e,Nat.beq_refl]at hb; cases hb)]
    exact H (.x i) β' ρ' S' a' w' h1 h2 h3 h4
  | r=>exact H .r β' ρ' S' a' w' h1 h2 h3 h4
 | R,r,.gh g x,c,S,β,ρ,a,w,k,Q,hb,hQ,hd,ha,h,hs,H=>by
  simp only[Ut]at hs
  obtain⟨S1,β1,ρ1,q1,q2,q3⟩:=Qct g h hs
  have hb':rb x c=true:=by cases c<;>exact hb
  exact Sd hT hmix hK hX hr hpin x hb' hQ hd ha q3 q1 fun e β2 ρ2 S2 a2 w2 p1 p2 p3 p4=>H e β2 ρ2 S2 a2 w2 p1 (q2.trans p2) p3 p4
 | R,r,.dr _ _ _,c,S,β,ρ,a,w,k,Q,hb,hQ,hd,ha,h,hs,H=>by cases c<;>cases hb
 | R,r,.dc _ _ _ _ _,c,S,β,ρ,a,w,k,Q,hb,hQ,hd,ha,h,hs,H=>by cases c<;>cases hb
 | R,r,.cn _ _ _,c,S,β,ρ,a,w,k,Q,hb,hQ,hd,ha,h,hs,H=>by cases c<;>cases hb
 | R,r,.ch _ _ _ _,c,S,β,ρ,a,w,k,Q,hb,hQ,hd,ha,h,hs,H=>by cases c<;>cases hb
 | R,r,.lp _ _ _ _ _,c,S,β,ρ,a,w,k,Q,hb,hQ,hd,ha,h,hs,H=>by cases c<;>cases hb
 | R,r,.jn _ _ _ _,c,S,β,ρ,a,w,k,Q,hb,hQ,hd,ha,h,hs,H=>by cases c<;>cases hb
end
end Gx

/- A range over a function. -/
namespace Gx
open Go Go.RowKit Gd
set_option linter.unusedVariables false
set_option linter.unusedSimpArgs false
structure It where
 f:FuncId
 cs:List Ty
 u:Ty
 fn:Tup cs→Option (List u.De)
def Jgj(ok:Ok)(w:World):List DV→List Nat→Prop
 | [],[]=>True
 | v::l,b::bs=>(∃tid cs,w.heap[b]?=some (.cells cs.toArray tid (0,0))∧(rt v.1).rep ok w v.2 cs)∧Jgj ok w l bs
 | _,_=>False
def Q40(b:Nat):Value:=.pointer (some ⟨b,0,none⟩)
def okC(ok:Ok)(w A:World)(O:Nat→Prop)(bs:List Nat):Ok:=fun b o=>(ok b o∨w.heap.size≤b∨b∈bs)∧b<A.heap.size∧¬ O b
def Jgk(P:Program)(gl:List (Nat×Σ t:Ty,t.De))(it:It):Prop :=
 ∀(ok:Ok) (w:World) (bs:List Nat) (x:Tup it.cs) (es:List it.u.De),(∀b o,ok b o→b<w.heap.size)→Ur gl ok w→it.fn x=some es→Jgj ok w (toL it.cs x) bs→bs.Nodup→(∀b∈bs,∀o,¬ ok b o) →
   ∀(l:Nat) (J:Nat→(Nat→Prop)→World→Prop) (W:World) (O0:Nat→Prop),Below w.heap.size w W→(∀k O A B,J k O A→Below A.heap.size A B→J k O B)→(∀k O A,J k O A→∀b,O b→b<A.heap.size∧(∀o,¬ ok b o)∧b∉bs) →
    (∀k O A e v,J k O A→es[k]?=some e→isV (rt it.u) (okC ok w A O bs) A e v→∀m,YieldAt Fence.wide m P l #[v] A fun r B=>r=.returned (.bool true) ∧
     ∃O',J (k+1) O' B∧(∀b,O' b→O b∨A.heap.size≤b)∧A.heap.size≤B.heap.size∧∀b,b<A.heap.size→¬ O b→B.heap[b]?=A.heap[b]?)→J 0 O0 W →
    ∀m,CallsIn Fence.wide m P it.f (#[.func (.yield l) #[] #[]]++(bs.map Q40).toArray) W fun e B=>(∃v,e=.returned v)∧∃O,J es.length O B
def Q0m(M:List (Nat×Ob)):AV→Option (List (Nat×DV))
 | .nil=>some []
 | .cons (.p id []) r=>match Qg M id,Q0m M r with
  | some (.var _ (.d t x)),some l=>some ((id,⟨t,x⟩)::l)
  | _,_=>none
 | _=>none
def Qpk{σ α:Type}(f:σ→α→Option σ):List α→σ→Option σ
 | [],s=>some s
 | x::l,s=>(f s x).bind fun s'=>Qpk f l s'
inductive AnR where
 | pre (a:An) (r:AnR)
 | inn (r:AnR) (b:An)
 | un (r:AnR)
 | rf (it:Nat) (ks ms:List Nat) (Γ:Shp) (a b:An)
def Qpl(ids:List Nat)(M:List (Nat×Ob)):List (Nat×Ob):=M.filter fun q=>!Yi ids q.1
section
variable (Y:TX) (K:List Con) (n N:Nat)
noncomputable def rdR(Γ:Shp){u:Ty}(S1:XS)(p:Nat)(aA aB:An)(A B:Code)(s:Γ.De)(e:u.De):Option Γ.De :=
 bif Wo (S1.re (enc Γ s)).flat.mem then
  Ut Y K n N aA A ((S1.re (enc Γ s)).put p [] (.d u e)) fun ex S2=>match ex with
   | .n=>bif Wo S2.flat.mem then(Ut Y K n N aB B S2 fun ex2 S3=>match ex2 with
    | .n=>S3.dec Γ
    | _=>none)else none
   | _=>none
 else none
def rfS(S:XS)(ids ks ms:List Nat):XS:=XS.ent { S with mem:=Qpl ids S.mem } ks ms
noncomputable def Qj6{R:Type}(its:List It):AnR→Code→XS→(Ex→XS→Option R)→Option R
 | .pre a r,.seq x y,S,k=>Ut Y K n N a x S fun e S'=>match e with
  | .n=>Qj6 its r y S' k
  | _=>none
 | .inn r b,.seq x y,S,k=>Qj6 its r x S fun e S'=>match e with
  | .n=>bif Wo S'.flat.mem then Ut Y K n N b y S' k else none
  | _=>none
 | .un r,.block _ c,S,k=>Qj6 its r c S fun e S'=>match e with
  | .n=>k .n S'
  | _=>none
 | .rf i ks ms Γ aA aB,.rangeFunc (.tmp g) ⟨[p]⟩ A B,S,k=>match its[i]?,S.ev [] (.tmp g)with
  | some it,some (.f gf caps)=>match Q0m S.mem caps with
   | some bl=>match ofL it.cs (bl.map Prod.snd)with
    | some x=>bif Nat.beq it.f gf&&(rb aA A&&rb aB B)&&((p::(Kn A++Kn B)).all fun d=>Qfh d (rfS S (bl.map Prod.fst) ks ms).fix)&&Jjo Γ.env&&okW n (rfS S (bl.map Prod.fst) ks ms) p&&Om (bl.map Prod.fst) &&
       Wo (rfS S (bl.map Prod.fst) ks ms).flat.mem then
      (it.fn x).bind fun es=>match (rfS S (bl.map Prod.fst) ks ms).dec Γ with
       | some s0=>(Qpk (rdR Y K n N Γ (u:=it.u) (rfS S (bl.map Prod.fst) ks ms) p aA aB A B) es s0).bind fun s=>k .n (XS.out { S with mem:=Qpl (bl.map Prod.fst) S.mem } ks ms (enc Γ s))
       | none=>none else none
    | none=>none
   | none=>none
  | _,_=>none
 | _,_,_,_=>none
end
theorem Q9z{α:Type}{R:α→α→Prop}(hs:∀a b,R a b→R b a):∀{l:List α},l.Pairwise R→∀x∈l,∀y∈l,x=y∨R x y
 | [],_,x,hx,_,_=>by cases hx
 | z::l,h,x,hx,y,hy=>by
  have h':=List.pairwise_cons.1 h
  rcases QX.1 hx with h1 | h1
  ·grind
  ·rcases QX.1 hy with h2 | h2
   ·grind
   ·exact Q9z hs h'.2 x h1 y h2
theorem Qa9:∀{l:List (Nat×Ob)} {t:Nat} {o:Ob},Qg l t=some o→(t,o)∈l
 | q::l,t,o,h=>by
  simp only[Qg]at h
  cases hb:Nat.beq q.1 t with
  | true =>
   rw[hb]at h
   grind [Nat.eq_of_beq_eq_true]
  | false =>
   rw[hb]at h
   exact .tail _ (Qa9 h)
section
variable {P:Program} {Y:TX} {X:Cx} {n N:Nat} {K:List Con} {β β':Nat→Nat} {ρ ρ':Nat→Value} {a a':Act} {w w':World} {S:XS}
theorem Rel.filterM{env:List En}{M F:List (Nat×Ob)}{ids:List Nat}(h:Rel X β ρ ⟨env,M++F⟩ a w):Rel X β ρ ⟨env,Qpl ids M++F⟩ a w:=by
 have hsub:(Qk β ρ (Qpl ids M++F)).Sublist (Qk β ρ (M++F)):=List.Sublist.map _ (List.Sublist.append_right List.filter_sublist _)
 exact Sb.remake h (fun t' ht'=>.inl ⟨t',hsub.subset ht',fun _ hg=>hg,fun _ _ hc=>hc,(h.own t' (hsub.subset ht')).1⟩) (h.dOO.sublist hsub)
theorem Qxw{ok:Ok}{M:List (Nat×Ob)}:∀{caps:AV} {vs:List Value} {bl:List (Nat×DV)},cr β ρ ok w true caps vs→Q0m M caps=some bl→vs=(bl.map fun q=>β q.1).map Q40
 | .nil,vs,bl,h,hb=>by
  simp only[Q0m,Option.some.injEq]at hb
  subst hb
  exact h
 | .cons x r,vs,bl,h,hb=>by
  obtain⟨c1,us,rfl,h1,h2⟩:=h
  unfold Q0m at hb
  split at hb
  ·grind
  ·rename_i id r' e
   injection e with e1 e2
   subst e1; subst e2
   split at hb
   ·rename_i tid t x l q1 q2
    simp only[Option.some.injEq]at hb
    subst hb
    have h1':c1=_:=h1
    subst h1'
    rw[Qxw h2 q2]
    rfl
   ·cases hb
  ·cases hb
 | .d _ _,_,_,_,hb=>by cases hb
 | .p _ _,_,_,_,hb=>by cases hb
 | .e _ _,_,_,_,hb=>by cases hb
 | .s _,_,_,_,hb=>by cases hb
 | .m _,_,_,_,hb=>by cases hb
 | .b _,_,_,_,hb=>by cases hb
 | .w _ _ _,_,_,_,hb=>by cases hb
 | .a _ _,_,_,_,hb=>by cases hb
 | .z,_,_,_,hb=>by cases hb
 | .ns,_,_,_,hb=>by cases hb
 | .np,_,_,_,hb=>by cases hb
 | .nm,_,_,_,hb=>by cases hb
 | .nf,_,_,_,hb=>by cases hb
 | .f _ _,_,_,_,hb=>by cases hb
 | .ag _,_,_,_,hb=>by cases hb
 | .tp _,_,_,_,hb=>by cases hb
theorem Qxx{M:List (Nat×Ob)}:∀{caps:AV} {bl:List (Nat×DV)},Q0m M caps=some bl→∀q∈bl,∃tid,Qg M q.1=some (.var tid (.d q.2.1 q.2.2))
 | .nil,bl,hb=>by
  grind [Q0m,Option.some.injEq]
 | .cons x r,bl,hb=>by
  unfold Q0m at hb
  split at hb
  ·grind
  ·rename_i id r' e
   injection e with e1 e2
   subst e1; subst e2
   split at hb
   ·rename_i tid t x l q1 q2
    simp only[Option.some.injEq]at hb
    subst hb
    intro q hq
    rcases QX.1 hq with rfl | hq
    ·exact⟨tid,q1⟩
    ·exact Qxx q2 q hq
   ·cases hb
  ·cases hb
 | .d _ _,_,hb=>by cases hb
 | .p _ _,_,hb=>by cases hb
 | .e _ _,_,hb=>by cases hb
 | .s _,_,hb=>by cases hb
 | .m _,_,hb=>by cases hb
 | .b _,_,hb=>by cases hb
 | .w _ _ _,_,hb=>by cases hb
 | .a _ _,_,hb=>by cases hb
 | .z,_,hb=>by cases hb
 | .ns,_,hb=>by cases hb
 | .np,_,hb=>by cases hb
 | .nm,_,hb=>by cases hb
 | .nf,_,hb=>by cases hb
 | .f _ _,_,hb=>by cases hb
 | .ag _,_,hb=>by cases hb
 | .tp _,_,hb=>by cases hb
theorem Jcp{ok:Ok}:∀{bl:List (Nat×DV)},(∀q∈bl,∃tid cs,w.heap[β q.1]?=some (.cells cs.toArray tid (0,0))∧(rt q.2.1).rep ok w q.2.2 cs)→Jgj ok w (bl.map Prod.snd) (bl.map fun q=>β q.1)
 | [],_=>trivial
 | q::bl,h=>⟨h q (.head _),Jcp fun x hx=>h x (.tail _ hx)⟩
theorem Jw1(hT:Qy P Y.T)(hmix:P.follows .mixedOrders=true)(hK:KsX P Y X K)(hX:X.n=n)(hr:X.res=[])(hpin:X.pin=none)(hdf:X.dfs=[]){it:It}(hit:Jgk P Y.gl it)(hrun:Runs P it.f)
  {g p m:Nat} {A B:Code} {ks ms:List Nat} {Γ:Shp} {aA aB:An} {caps:AV} {bl:List (Nat×DV)} {x:Tup it.cs} {es:List it.u.De} {s0 sE:Γ.De} {Q:Exit→Act→World→Prop}
  (h:Rel X β ρ S.flat a w) (hg:S.ev [] (.tmp g)=some (.f it.f caps)) (hbl:Q0m S.mem caps=some bl) (hx:ofL it.cs (bl.map Prod.snd)=some x) (hbA:rb aA A=true) (hbB:rb aB B=true)
  (hoff:∀d∈p::(Kn A++Kn B),Qfh d (rfS S (bl.map Prod.fst) ks ms).fix=true) (hΓ:Γ.env=[]) (hp:okW n (rfS S (bl.map Prod.fst) ks ms) p=true) (hV:Wo (rfS S (bl.map Prod.fst) ks ms).flat.mem=true) (hndB:Om (bl.map Prod.fst)=true)
  (hes:it.fn x=some es) (hs0:(rfS S (bl.map Prod.fst) ks ms).dec Γ=some s0) (hfold:Qpk (rdR Y K n N Γ (u:=it.u) (rfS S (bl.map Prod.fst) ks ms) p aA aB A B) es s0=some sE)
  (H:∀(β':Nat→Nat) (ρ':Nat→Value) (w':World) (D:Nat),agP S.prot β β' ρ ρ'→Rel { X with dfs:=[⟨.collected D,#[]⟩] } β' ρ' (XS.out { S with mem:=Qpl (bl.map Prod.fst) S.mem } ks ms (enc Γ sE)).flat { a with defers:=[⟨.collected D,#[]⟩] } w' →
   w'.heap[D]?=some (.deferred (some []))→X.w.heap.size≤D→Q .normal { a with defers:=[⟨.collected D,#[]⟩] } w') :
  (Code.rangeFunc (.tmp g) ⟨[p]⟩ A B).wpIn Fence.wide m P Q a w:=by
 obtain⟨S1,hS1⟩:∃S1,S1=rfS S (bl.map Prod.fst) ks ms:=⟨_,rfl⟩
 rw[←hS1]at hoff hp hV hs0 hfold
 have hflat0:Rel X β ρ (XS.flat { S with mem:=Qpl (bl.map Prod.fst) S.mem }) a w:=Rel.filterM (M:=S.mem) (F:=S.fixM) h
 have h1:Rel X β ρ S1.flat a w:=by rw[hS1]; exact hflat0.ent ks ms
 have hpm:S1.flat.mem.Perm (Qpl (bl.map Prod.fst) S.mem++S.fixM):=by
  rw[hS1]
  simp only[XS.flat,rfS,XS.ent]
  rw[←List.append_assoc]
  exact(JG.trans (K1 ms _)).append_right _
 have hprot:S1.prot=S.prot:=by rw[hS1]; rfl
 have hsubM:∀q∈S1.flat.mem,q∈S.flat.mem∧(q∈Qpl (bl.map Prod.fst) S.mem∨q∈S.fixM):=fun q hq=>by
  rcases QZ.1 (hpm.subset hq)with hq | hq
  ·exact⟨List.mem_append_left _ (QN.1 hq).1,.inl hq⟩
  ·exact⟨List.mem_append_right _ hq,.inr hq⟩
 obtain⟨cs,hev,us,hus,hcaps⟩:=h.ev (Qf a) hg
 have hev':a.eval (.tmp g)=.func (.func it.f) #[] us.toArray:=by rw[hev,hus]; rfl
 have husv:=Qxw hcaps hbl
 have hlook:=Qxx hbl
 have hokW:∀b o,okR X β ρ S.flat.mem w b o→okR X β ρ S1.flat.mem w b o:=fun b o ⟨q1,q2,q3,q4⟩=>⟨q1,q2,q3,fun t ht=>by
  grind⟩
 have hbox:Jgj (okR X β ρ S.flat.mem w) w (bl.map Prod.snd) (bl.map fun q=>β q.1):=Jcp fun q hq=>by
  obtain⟨tid,hl⟩:=hlook q hq
  obtain⟨⟨cs,c1,c2⟩,_⟩:=h.ob (Qx hl:Qg S.flat.mem q.1=_)
  exact⟨tid,cs,c1,c2⟩
 have hbs:∀b∈bl.map (fun q=>β q.1),b<w.heap.size∧b∉Bn w.heap.size (Qk β ρ S1.flat.mem):=fun b hb=>by
  obtain⟨q,hq,rfl⟩:=QK.1 hb
  obtain⟨tid,hl⟩:=hlook q hq
  obtain⟨⟨cs,c1,c2⟩,_⟩:=h.ob (Qx hl:Qg S.flat.mem q.1=_)
  refine⟨Vg c1,fun hbl2=>?_⟩
  obtain⟨_,t,ht,htb⟩:=Kt.1 hbl2
  obtain⟨z,hz,rfl⟩:=QK.1 ht
  obtain⟨hz1,hz2⟩:=hsubM z hz
  have hpw:S.flat.mem.Pairwise fun s t=>∀g,(Qv β ρ s.1 s.2).blks g→¬ (Qv β ρ t.1 t.2).blks g:=JO.1 h.dOO
  have hm:=Qa9 hl
  rcases Q9z (fun a b hab g hg hg2=>hab g hg2 hg) hpw z hz1 (q.1,.var tid (.d q.2.1 q.2.2)) (List.mem_append_left _ hm)with e | e
  ·subst e
   rcases hz2 with hz2 | hz2
   ·have:=(QN.1 hz2).2
    rw[show Yi (bl.map Prod.fst) q.1=true from Ql3 (QK.2 ⟨q,hq,rfl⟩)]at this
    cases this
   ·
    have hpw2:=QA.1 hpw
    exact hpw2.2.2 _ hm _ hz2 (β q.1) rfl rfl
  ·exact e (β q.1) htb rfl
 have hoklt:∀b o,okR X β ρ S.flat.mem w b o→b<w.heap.size:=fun b o hbo=>hbo.2.1
 have hxl:=Qz5 hx
 have hpw0:S.flat.mem.Pairwise fun s t=>∀g,(Qv β ρ s.1 s.2).blks g→¬ (Qv β ρ t.1 t.2).blks g:=JO.1 h.dOO
 have hnd:(bl.map fun q=>β q.1).Nodup:=by
  have key:∀(l:List (Nat×DV)),(∀q∈l,q∈bl)→Om (l.map Prod.fst)=true→(l.map fun q=>β q.1).Nodup:=by
   intro l
   induction l with
   | nil=>grind
   | cons q l ih =>
    intro hs hn
    simp only[QR,Om,QQ,XQ]at hn
    refine List.pairwise_cons.2 ⟨fun b hb e=>?_,ih (fun z hz=>hs z (.tail _ hz)) hn.2⟩
    obtain⟨z,hz,hzb⟩:=QK.1 hb
    obtain⟨t1,l1⟩:=hlook q (hs q (.head _))
    obtain⟨t2,l2⟩:=hlook z (hs z (.tail _ hz))
    rcases Q9z (fun a b hab g hg hg2=>hab g hg2 hg) hpw0 _ (List.mem_append_left _ (Qa9 l1)) _ (List.mem_append_left _ (Qa9 l2))with e2 | e2
    ·have e3:q.1=z.1:=by injection e2
     have:Yi (l.map Prod.fst) q.1=true:=Ql3 (QK.2 ⟨z,hz,e3.symm⟩)
     rw[hn.1]at this; cases this
    ·exact e2 (β q.1) rfl (e.trans hzb.symm)
  grind
 have hbno:∀b∈bl.map (fun q=>β q.1),∀o,¬ okR X β ρ S.flat.mem w b o:=fun b hb o hbo=>by
  obtain⟨q,hq,rfl⟩:=QK.1 hb
  obtain⟨tid,hl⟩:=hlook q hq
  exact hbo.2.2.2 _ (QK.2 ⟨_,List.mem_append_left _ (Qa9 hl),rfl⟩) rfl
 have hbok:∀b∈bl.map (fun q=>β q.1),∀o,okR X β ρ S1.flat.mem w b o:=fun b hb o=>by
  have hb':=hb
  obtain⟨q,hq,rfl⟩:=QK.1 hb
  obtain⟨tid,hl⟩:=hlook q hq
  obtain⟨_,hmine⟩:=h.ob (Qx hl:Qg S.flat.mem q.1=_)
  exact⟨X.mine_ok (hmine _ rfl) o,(hbs _ hb').1,by simp,fun t ht hc=>(hbs _ hb').2 (Kt.2 ⟨(hbs _ hb').1,t,ht,t.cb hc⟩)⟩
 have hGw:Ur Y.gl (okR X β ρ S.flat.mem w) w:=Qa2 h hK.2
 have hcall:=hit _ w _ x es hoklt hGw hes (by rw[hxl]; exact hbox) hnd hbno
 obtain⟨hR',hG'⟩:=Q0i hK.2 h1 hV
 obtain⟨X',hX'⟩:∃X',X'=reX X β ρ S1.flat.mem w:=⟨_,rfl⟩
 rw[←hX']at hR' hG'
 have hXn:X'.n=n:=by rw[hX']; exact hX
 have hXr:X'.res=[]:=by rw[hX']; rfl
 have hXp:X'.pin=none:=by rw[hX']; rfl
 have hXd:X'.dfs=[]:=by rw[hX']; exact hdf
 have hXw:X'.w=w:=by rw[hX']; rfl
 have hXl:X'.lent=Bn w.heap.size (Qk β ρ S1.flat.mem):=by rw[hX']; rfl
 have hK':KsX P Y X' K:=⟨hK.1,hG'⟩
 obtain⟨β0,ρ0,hag0,hR0⟩:=Tk (S0:=S1) hR' ⟨rfl,rfl,rfl⟩ hs0
 obtain⟨f,hf⟩:∃f,f=rdR Y K n N Γ (u:=it.u) S1 p aA aB A B:=⟨_,rfl⟩
 rw[←hf]at hfold
 have hadf:a.defers=[]:=h.df.trans hdf
 refine wpIn_rangeFunc fun fn hfn=>?_
 obtain⟨rec,hrec⟩:∃rec:LoopState→Option Code→Loop,rec=fun st pe=>{ state:=st,pending:=pe,fn,tmps:=a.tmps,params:=⟨[p]⟩,assign:=A,body:=B,defers:=w.heap.size }:=⟨_,rfl⟩
 obtain⟨W1,hW1⟩:∃W1,(w.alloc (.deferred (some []))).alloc (.loop (rec .ready none))=W1:=⟨_,rfl⟩
 have hL1:W1.heap[w.heap.size+1]?=some (.loop (rec .ready none)):=by
  rw[←hW1]; have:=World.alloc_heap_new (w.alloc (.deferred (some []))) (.loop (rec .ready none)); rwa[World.size_alloc]at this
 have hD1:W1.heap[w.heap.size]?=some (.deferred (some [])):=by
  rw[←hW1]; exact(Below.heap_alloc _ _ _ (by simp)).trans (World.alloc_heap_new w _)
 have hb1:Below w.heap.size w W1:=by
  rw[←hW1]; exact(((Below.refl _ w).alloc (QU _) _).alloc (by simp) _)
 obtain⟨J,hJ⟩:∃J:Nat→(Nat→Prop)→World→Prop,J=fun k O W=>∃s β' ρ',Qpk f (es.drop k) s=some sE∧agP S1.prot β β' ρ ρ'∧Rel X' β' ρ' (S1.re (enc Γ s)).flat a W ∧
  W.heap[w.heap.size+1]?=some (.loop (rec .ready none))∧W.heap[w.heap.size]?=some (.deferred (some []))∧O=fun b=>∃t∈Qk β' ρ' (S1.re (enc Γ s)).flat.mem,t.blks b:=⟨_,rfl⟩
 refine⟨w.heap.size+1,[{ target:=.collected w.heap.size,args:=#[] }],W1,{ target:=.fn (.func it.f) us.toArray,args:=#[.func (.yield (w.heap.size+1)) #[] #[]] },W1,it.f,
  #[.func (.yield (w.heap.size+1)) #[] #[]]++us.toArray,W1,?_,?_,fun _ _=>trivial,?_,(fun h=>by cases h),?_⟩
 ·rw[←hW1,hrec]; simp[run_enterLoop_outer]
 ·simp only[resolve,hev']
  simp[go_sem]
 ·grind [invoke,Qk9]
 have hown:∀k O A,J k O A→∀b,O b→b<A.heap.size∧(∀o,¬ okR X β ρ S.flat.mem w b o)∧b∉bl.map (fun q=>β q.1):=fun k O A hJk b hOb=>by
  rw[hJ]at hJk
  obtain⟨s,β',ρ',_,_,hRk,_,_,rfl⟩:=hJk
  obtain⟨t,ht,htb⟩:=hOb
  have hm:=(hRk.own t ht).2 b htb
  refine⟨hRk.olt ht htb,fun o hbo=>?_,fun hb=>?_⟩
  ·rcases hm with q | q
   ·rw[hXw]at q; have:=hbo.2.1; omega
   ·rw[hXl]at q
    obtain⟨_,t2,ht2,htb2⟩:=Kt.1 q
    obtain⟨z,hz,rfl⟩:=QK.1 ht2
    have hcv:=Jur hV _ ht2 b o htb2
    exact hbo.2.2.2 _ (QK.2 ⟨z,(hsubM z hz).1,rfl⟩) hcv
  ·rcases hm with q | q
   ·rw[hXw]at q; have:=(hbs b hb).1; omega
   grind
 have hcall1:=hcall (w.heap.size+1) J W1 (fun b=>∃t∈Qk β0 ρ0 (S1.re (enc Γ s0)).flat.mem,t.blks b) hb1 (fun k O A' B' hA hAB=>by
  rw[hJ]at hA ⊢
  obtain⟨s,β',ρ',j1,j2,j3,j4,j5,j6⟩:=hA
  exact⟨s,β',ρ',j1,j2,Sb.below j3 hAB,(hAB.block _ (Vg j4)).trans j4,(hAB.block _ (Vg j5)).trans j5,j6⟩) hown ?round (by
  rw[hJ]
  exact⟨s0,β0,ρ0,hfold,hag0,Sb.below hR0 hb1,hL1,hD1,rfl⟩) (m - 1)
 case round =>
  intro k O W e v hJk he hv m1
  rw[hJ]at hJk
  obtain⟨s,β',ρ',j1,j2,j3,j4,j5,hO⟩:=hJk
  have hkl:k<es.length:=(List.getElem?_eq_some_iff.1 he).1
  rw[List.drop_eq_getElem_cons hkl]at j1
  have hek:es[k]=e:=by rw[List.getElem?_eq_getElem hkl]at he; grind
  rw[hek]at j1
  obtain⟨s',hs',j1'⟩:=Ys j1
  have hs'0:=hs'
  rw[hf]at hs'
  unfold rdR at hs'
  obtain⟨hV1,hs'⟩:=bvT hs'
  have hy:=run_yield (P:=P) (args:=#[v]) j4 (by rw[hrec]; rfl)
  rw[hrec]at hy
  refine⟨fn,_,A,B,hy,roundIn_of_wpIn hfn ?_⟩
  have hact:({ tmps:=((⟨[p]⟩:Array Tmp).zip #[v]).foldl (fun tmps (t,a)=>tmps.setIfInBounds t a) a.tmps,defers:=[] }:Act)=a.put (some p) v:=by
   simp[Act.put,←hadf]
  rw[hact]
  obtain⟨hpd,hpo⟩:=Vc (S:=S1.re (enc Γ s)) hp hXn hXr
  have hval:isV (rt it.u) (okR X' β' ρ' (S1.re (enc Γ s)).flat.mem W) W e v:=by
   refine hv.weak fun b o hbo=>?_
   refine⟨?_,hbo.2.1,by simp,fun t ht hc=>hbo.2.2 (by rw[hO]; exact⟨t,ht,t.cb hc⟩)⟩
   rcases hbo.1 with q | q | q
   ·exact .inl (by rw[hX']; exact .inl (hokW b o q))
   ·grind
   ·exact .inl (by rw[hX']; exact .inl (hbok b q o))
  obtain⟨c,hc1,hc2⟩:=Qne hval
  have hput:Rel X' β' ρ' ((S1.re (enc Γ s)).put p [] (.d it.u e)).flat (a.put (some p) v) W:=by
   rw[Ky hpo,hc2]
   exact j3.put0 hpd hc1
  have hVp:Wo ((S1.re (enc Γ s)).put p [] (.d it.u e)).flat.mem=true:=hV1
  obtain⟨hR2,hG2⟩:=Q0i hG' hput hVp
  have hl4:W.heap.size>w.heap.size+1:=Vg j4
  have hnoL:∀{X0:Cx} {β1:Nat→Nat} {ρ1:Nat→Value} {S2:St} {a2:Act} {W2:World},Rel X0 β1 ρ1 S2 a2 W2→(∀r,W2.heap[w.heap.size+1]?=some (.loop r)→w.heap.size+1∉Bn W2.heap.size (Qk β1 ρ1 S2.mem))∧(∀r,W2.heap[w.heap.size]?=some (.deferred r)→w.heap.size∉Bn W2.heap.size (Qk β1 ρ1 S2.mem)):=by
   intro X0 β1 ρ1 S2 a2 W2 hR
   refine⟨fun r hl hm=>?_,fun r hl hm=>?_⟩
   ·obtain⟨_,t,ht,htb⟩:=Kt.1 hm
    exact hR.notOwn hl rfl (fun _ _=>by simp) t ht htb
   ·obtain⟨_,t,ht,htb⟩:=Kt.1 hm
    exact hR.notOwn hl rfl (fun _ _=>by simp) t ht htb
  have hsame0:L2 (p::(Kn A++Kn B)) a (a.put (some p) v):=L2.put (fun t _=>rfl) (fun d hd=>by grind) v
  refine Sd (X:=reX X' β' ρ' ((S1.re (enc Γ s)).put p [] (.d it.u e)).flat.mem W) (ds:=p::(Kn A++Kn B)) (a0:=a) hT hmix ⟨hK.1,hG2⟩ hXn rfl rfl aA hbA (by rintro⟨_,_,hh⟩; exact hh) (fun d hd=>.tail _ (List.mem_append_left _ hd)) hsame0 hR2 hs' fun ex β2 ρ2 S2 a2 W2 q1 q2 q3 q4=>?_
  cases ex with
  | x i=>cases q1
  | r=>cases q1
  | n =>
   simp only at q1
   obtain⟨hV2,q1⟩:=bvT q1
   have hl2:W2.heap[w.heap.size+1]?=some (.loop (rec .ready none)):=(q3.bel.block _ hl4 ((hnoL hput).1 _ j4)).trans j4
   have hd2:W2.heap[w.heap.size]?=some (.deferred (some [])):=(q3.bel.block _ (by show w.heap.size<W.heap.size; omega) ((hnoL hput).2 _ j5)).trans j5
   have q3':=Q0j hput hVp hXr hXp q3
   refine⟨_,run_beginRound hl2 (by rw[hrec]),?_⟩
   have q5:Rel X' β2 ρ2 S2.flat a2 (W2.putObj (w.heap.size+1) (.loop { rec .ready none with state:=.busy })):=q3'.turn (by rw[hXw]; omega) hl2 rfl (fun _ _=>by simp) rfl
   have hl3:(W2.putObj (w.heap.size+1) (.loop { rec .ready none with state:=.busy })).heap[w.heap.size+1]?=some (.loop { rec .ready none with state:=.busy }):=World.putObj_heap_same (Vg hl2)
   have hd3:(W2.putObj (w.heap.size+1) (.loop { rec .ready none with state:=.busy })).heap[w.heap.size]?=some (.deferred (some [])):=(World.putObj_heap_other (by omega)).trans hd2
   obtain⟨W3,hW3⟩:∃W3,W3=W2.putObj (w.heap.size+1) (.loop { rec .ready none with state:=.busy }):=⟨_,rfl⟩
   rw[←hW3]at q5 hl3 hd3 ⊢
   obtain⟨hR3,hG3⟩:=Q0i hG' q5 hV2
   refine Sd (X:=reX X' β2 ρ2 S2.flat.mem W3) (ds:=p::(Kn A++Kn B)) (a0:=a) hT hmix ⟨hK.1,hG3⟩ hXn rfl rfl aB hbB (by rintro⟨_,_,hh⟩; exact hh) (fun d hd=>.tail _ (List.mem_append_right _ hd)) q4 hR3 q1 fun ex β3 ρ3 S3 a3 W4 r1 r2 r3 r4=>?_
   cases ex with
   | x i=>cases r1
   | r=>cases r1
   | n =>
    simp only at r1
    have hl4':W4.heap[w.heap.size+1]?=some (.loop { rec .ready none with state:=.busy }):=(r3.bel.block _ (Vg hl3) ((hnoL q5).1 _ hl3)).trans hl3
    have hd4:W4.heap[w.heap.size]?=some (.deferred (some [])):=(r3.bel.block _ (Vg hd3) ((hnoL q5).2 _ hd3)).trans hd3
    have hk3:S3.fix=S1.fix∧S3.fixM=S1.fixM∧S3.prot=S1.prot:=⟨r2.fix.trans q2.fix,r2.fixM.trans q2.fixM,r2.prot.trans q2.prot⟩
    obtain⟨β4,ρ4,hag4,hR40⟩:=Tk (S0:=S1) r3 hk3 r1
    have hR4:=Q0j q5 hV2 hXr hXp hR40
    have hR5:Rel X' β4 ρ4 (S1.re (enc Γ s')).flat a W4:=by
     have henv:(S1.re (enc Γ s')).flat.env=S1.fix:=by
      grind [enc,Ow,toL,XS.flat,XS.re]
     have hsz:a.tmps.size=a3.tmps.size:=j3.sz.trans hR4.sz.symm
     refine Rel.act (S:=(S1.re (enc Γ s')).flat) (env':=(S1.re (enc Γ s')).flat.env) hR4 hsz (by rw[hadf,hR4.df,hXd]) (by rw[hXr]; simp) fun e0 he0=>?_
     have hen:=hR4.en he0
     rw[henv]at he0
     have hsm:∀t,t∉p::(Kn A++Kn B)→a.tmps[t]?=a3.tmps[t]?:=fun t ht=>(r4 t ht).symm
     have hoffd:e0.t∉p::(Kn A++Kn B)∧∀c∈e0.cs,c.1∉p::(Kn A++Kn B):=⟨fun hm=>(Qfk (hoff _ hm) e0 he0).1 rfl,fun c hc hm=>(Qfk (hoff _ hm) e0 he0).2 c hc rfl⟩
     have hcc:Jy a e0.cs↔Jy a3 e0.cs:=⟨fun hc c hm=>by rw[←hsm _ (hoffd.2 c hm)]; exact hc c hm,fun hc c hm=>by rw[hsm _ (hoffd.2 c hm)]; exact hc c hm⟩
     have hrd:rd a e0.t=rd a3 e0.t:=by grind [rd]
     refine⟨fun hc=>?_,?_⟩
     ·obtain⟨cs,z1,z2⟩:=hen.1 (hcc.1 hc)
      grind
     ·rw[hcc,hrd]; exact hen.2
    refine⟨_,_,run_endRound none hl4',rfl,?_⟩
    have hre:({ ({ rec .ready none with state:=.busy }:Loop)with state:=if(none:Option Code).isNone then .ready else .done,pending:=none }:Loop)=rec .ready none:=by rw[hrec]; rfl
    rw[hre]
    have ag2:agP S1.prot β' β2 ρ' ρ2:=q2.ag
    have ag3:agP S1.prot β2 β3 ρ2 ρ3:=by have:=r2.ag; rw[show S2.prot=S1.prot from q2.prot]at this; exact this
    have own2:∀b,b∈Bn W3.heap.size (Qk β2 ρ2 S2.flat.mem)→O b∨W.heap.size≤b:=fun b hb=>by
     obtain⟨_,t,ht,htb⟩:=Kt.1 hb
     rcases(q3.own t ht).2 b htb with z | z
     ·exact .inr z
     ·obtain⟨_,t2,ht2,htb2⟩:=Kt.1 z
      exact .inl (by rw[hO]; exact⟨t2,ht2,htb2⟩)
    have hsz2:W.heap.size≤W2.heap.size:=q3.bel.size
    have hsz3:W.heap.size≤W3.heap.size:=by rw[hW3,World.putObj_size]; exact hsz2
    have keep:∀b,b<W.heap.size→¬ O b→b≠w.heap.size+1→W4.heap[b]?=W.heap[b]?:=fun b hb hOb hbl=>by
     have e1:W4.heap[b]?=W3.heap[b]?:=r3.bel.block b (show b<W3.heap.size by omega) fun hm=>by
      rcases own2 b hm with z | z
      ·exact hOb z
      ·omega
     have e2:W3.heap[b]?=W2.heap[b]?:=by rw[hW3]; exact World.putObj_heap_other hbl
     have e3:W2.heap[b]?=W.heap[b]?:=q3.bel.block b hb fun hm=>by
      obtain⟨_,t2,ht2,htb2⟩:=Kt.1 hm
      exact hOb (by rw[hO]; exact⟨t2,ht2,htb2⟩)
     rw[e1,e2,e3]
    refine⟨fun b=>∃t∈Qk β4 ρ4 (S1.re (enc Γ s')).flat.mem,t.blks b,by
     rw[hJ]
     exact⟨s',β4,ρ4,j1',((j2.trans ag2).trans ag3).trans hag4,hR5.turn (by rw[hXw]; omega) hl4' rfl (fun _ _=>by simp) rfl,World.putObj_heap_same (Vg hl4'),(World.putObj_heap_other (by omega)).trans hd4,rfl⟩,fun b hb=>?_,?_,fun b hb hOb=>?_⟩
    ·obtain⟨t,ht,htb⟩:=hb
     rcases(hR40.own t ht).2 b htb with z | z
     ·exact .inr (QY hsz3 z)
     ·exact own2 b z
    ·have:=r3.bel.size
     simp only[World.putObj_size]
     exact QY hsz3 this
    grind [World.putObj_heap_same,Vg,World.putObj_heap_other]
 rw[husv]
 refine hcall1.mono ?_
 rintro e W2 ⟨⟨v,rfl⟩,O,hJe⟩
 rw[hJ]at hJe
 obtain⟨s,β',ρ',j1,j2,j3,j4,j5,_⟩:=hJe
 rw[XN]at j1
 have hsE:s=sE:=Option.some.inj j1
 subst hsE
 refine⟨none,_,by have:=run_endLoop (P:=P) j4 (by rw[hrec]; simp); rw[hrec]at this; exact this,?_⟩
 have j6:=j3.turn (o':=.loop { rec .ready none with state:=.exhausted }) (by rw[hXw]; omega) j4 rfl (fun _ _=>by simp) rfl
 rw[hX']at j6
 have j7:=Q0j h1 hV hr hpin j6
 have j8:=j7.withD [⟨.collected w.heap.size,#[]⟩]
 have e1:([{ target:=.collected w.heap.size,args:=#[] }]++a.defers:List Deferred)=[⟨.collected w.heap.size,#[]⟩]:=by rw[hadf]; rfl
 rw[e1]
 rw[hrec]at j8
 refine H β' ρ' _ w.heap.size (by rw[←hprot]; exact j2) ?_ ((World.putObj_heap_other (by omega)).trans j5) h.bel.size
 rw[Qfn]
 rw[hS1]at j8
 exact j8
end
end Gx

/- Functions with a range over a function. -/
namespace Gx
open Go Go.RowKit Gd
set_option linter.unusedVariables false
set_option linter.unusedSimpArgs false
section
variable {P:Program} {Y:TX} {X:Cx} {n N:Nat} {K:List Con}
def Jcq(X:Cx)(D:Nat):Cx:={ X with dfs:=[⟨.collected D,#[]⟩] }
theorem Qrg(hT:Qy P Y.T)(hmix:P.follows .mixedOrders=true)(hK:KsX P Y X K)(hX:X.n=n)(hr:X.res=[])(hpin:X.pin=none)(hdf:X.dfs=[]){its:List It}(hits:∀it∈its,Jgk P Y.gl it∧Runs P it.f){m:Nat} :
  ∀{R:Type} {r:R} (an:AnR) {c:Code} {S:XS} {β:Nat→Nat} {ρ:Nat→Value} {a:Act} {w:World} {k:Ex→XS→Option R} {Q:Exit→Act→World→Prop},
  Rel X β ρ S.flat a w→Qj6 Y K n N its an c S k=some r →
  (∀(D:Nat) (e:Ex) (β':Nat→Nat) (ρ':Nat→Value) (S':XS) (a':Act) (w':World),k e S'=some r→Vb S S' β β' ρ ρ'→Rel (Jcq X D) β' ρ' S'.flat a' w'→w'.heap[D]?=some (.deferred (some []))→X.w.heap.size≤D→Q e.exit a' w')→c.wpIn Fence.wide m P Q a w
 | R,r,.pre an rn,c,S,β,ρ,a,w,k,Q,h,hs,H=>by
  cases c<;>simp only[Qj6]at hs<;>first | (cases hs; done) | skip
  rename_i x y
  refine wpIn_seq (wpIn_wide.2 (Zb hT hmix hK hX hr hpin an h hs fun e β' ρ' S' a' w' h1 h2 h3=>?_))
  cases e with
  | n=>exact Qrg hT hmix hK hX hr hpin hdf hits rn h3 h1 fun D e β2 ρ2 S2 a2 w2 q1 q2 q3 q4 q5=>H D e β2 ρ2 S2 a2 w2 q1 (h2.trans q2) q3 q4 q5
  | x i=>cases h1
  | r=>cases h1
 | R,r,.inn rn an,c,S,β,ρ,a,w,k,Q,h,hs,H=>by
  cases c<;>simp only[Qj6]at hs<;>first | (cases hs; done) | skip
  rename_i x y
  refine wpIn_seq (Qrg hT hmix hK hX hr hpin hdf hits rn h hs fun D e β' ρ' S' a' w' h1 h2 h3 h4 h5=>?_)
  cases e with
  | x i=>cases h1
  | r=>cases h1
  | n =>
   obtain⟨hV,h1⟩:=bvT h1
   have hG1:Ur Y.gl (okN (Jcq X D)) (Jcq X D).w:=hK.2
   obtain⟨hR2,hG2⟩:=Q0i hG1 h3 hV
   have hnl:D∉Bn w'.heap.size (Qk β' ρ' S'.flat.mem):=fun hm=>by
    obtain⟨_,t,ht,htb⟩:=Kt.1 hm
    exact h3.notOwn h4 rfl (fun _ _=>by simp) t ht htb
   show y.wpIn Fence.wide m P Q a' w'
   refine wpIn_wide.2 (Zb (X:=reX (Jcq X D) β' ρ' S'.flat.mem w') hT hmix ⟨hK.1,hG2⟩ hX rfl rfl an hR2 h1 fun e β2 ρ2 S2 a2 w2 q1 q2 q3=>?_)
   exact H D e β2 ρ2 S2 a2 w2 q1 (h2.trans q2) (Q0j h3 hV hr hpin q3) ((q3.bel.block D (Vg h4) hnl).trans h4) h5
 | R,r,.un rn,c,S,β,ρ,a,w,k,Q,h,hs,H=>by
  cases c<;>simp only[Qj6]at hs<;>first | (cases hs; done) | skip
  rename_i id c1
  refine wpIn_block (Qrg hT hmix hK hX hr hpin hdf hits rn h hs fun D e β' ρ' S' a' w' h1 h2 h3 h4 h5=>?_)
  cases e with
  | x i=>cases h1
  | r=>cases h1
  | n=>exact H D .n β' ρ' S' a' w' h1 h2 h3 h4 h5
 | R,r,.rf i ks ms Γ aA aB,c,S,β,ρ,a,w,k,Q,h,hs,H=>by
  cases c<;>first | (simp only[Qj6]at hs; cases hs; done) | skip
  rename_i g ps A B
  obtain⟨ps⟩:=ps
  match g,ps,hs with
  | .tmp g,[p],hs =>
   simp only[Qj6]at hs
   split at hs
   ·rename_i it gf caps hit hg
    split at hs
    ·rename_i bl hbl
     split at hs
     ·rename_i x hx
      obtain⟨hb,hs2⟩:=bvT hs
      simp only[QQ]at hb
      obtain⟨⟨⟨⟨⟨⟨b1,b2,b3⟩,b4⟩,b5⟩,b6⟩,b8⟩,b7⟩:=hb
      have hfe:=Nat.eq_of_beq_eq_true b1
      subst hfe
      obtain⟨es,hes,hs3⟩:=Ys hs2
      split at hs3
      ·rename_i s0 hs0
       obtain⟨sE,hfold,hk⟩:=Ys hs3
       have hΓ:Γ.env=[]:=by
        cases hE:Γ.env with
        | nil=>rfl
        | cons q l=>rw[hE]at b5; cases b5
       obtain⟨hi1,hi2⟩:=hits it (List.mem_of_getElem? hit)
       exact Jw1 hT hmix hK hX hr hpin hdf hi1 hi2 h hg hbl hx b2 b3 (fun d hd=>QP.1 b4 d hd) hΓ b6 b7 b8 hes hs0 hfold fun β' ρ' w' D q1 q2 q3 q4=>H D .n β' ρ' _ _ w' hk ⟨rfl,rfl,rfl,q1⟩ q2 q3 q4
      ·cases hs3
     ·cases hs
    ·cases hs
   ·cases hs
  | .tmp g,[],hs=>simp[Qj6]at hs
  | .tmp g,_::_::_,hs=>simp[Qj6]at hs
  | .const _,_,hs=>simp[Qj6]at hs
  | .global _,_,hs=>simp[Qj6]at hs
  | .func _,_,hs=>simp[Qj6]at hs
noncomputable def Jkl(Y:TX)(K:List Con)(N:Nat)(its:List It)(fn:Func)(an:AnR)(ro:List Nat)(Γ:Shp)(Δ:List Shp)(x:Γ.De):Option (Qaz Δ):=match fn.body with
 | some c=>bif Nat.ble Γ.env.length fn.ntmps&&(Dm Γ.env 0&&Nat.blt Γ.env.length 100000)then Qj6 Y K fn.ntmps N its an c ⟨(enc Γ x).env,Qfj Y.gl,wrM ro (enc Γ x).mem,rdM ro (enc Γ x).mem,Γ.mem.map Prod.fst⟩ fun e S=>match e with
  | .x _=>none
  | .n=>fin Y fn Δ S
  | .r=>fin Y fn Δ S else none
 | none=>none
theorem Jgl{f:FuncId}{fn:Func}{c:Code}{vs:List Value}{R:Value→World→Prop}{ok:Ok}{n m:Nat}{L:List Nat}{O:List TL}{w:World}(hok:∀b o,ok b o→b<w.heap.size)
  (hf:P.funcs[f]?=some fn) (hb:fn.body=some c) (hn:fn.ntmps=n) (hle:Nat.ble vs.length n=true) (hO:Qle O L ok w)
  (h:∀a,Sb (fun _=>0) (cxL L n ok w) (Q28 vs 0) [] [] O a w→c.wpIn Fence.wide m P (bodyPostM Fence.wide m P fn (Qzl L w R)) a w):Calls P f ⟨vs⟩ w (Qzl L w R):=by
 refine callsIn_wide.1 (callsIn_of_wp_marks (n:=m) hf hb trivial (h _ ?_))
 have hle':=QV hle
 have hk:∀b o,ok b o→Jn (okL L ok) w.heap.size (fun _=>0) [] O w b o:=fun b o hbo=>⟨.inl (.inl hbo),hok b o hbo,by simp,fun t ht hc=>(hO.1 t ht).2.2 b o (t.cb hc) hbo⟩
 refine { sz:=by grind,df:=rfl,fr:=by simp,pn:=by simp,tm:=?_,bel:=Zt.refl _ _ _,dat:=trivial,obj:=by simp,own:=fun t ht=>⟨t.weak (hO.1 t ht).1 hk,fun g hg=>.inr ((hO.1 t ht).2.1 g hg)⟩,dHH:=by simp,dHO:=by simp,dOO:=hO.2.1 }
 intro p hp
 obtain⟨j,v,rfl,hv⟩:=Q29 hp
 have hj:=(List.getElem?_eq_some_iff.1 hv).1
 simp_all [QW,Mp,XY]
theorem Jkm(hT:Qy P Y.T)(hmix:P.follows .mixedOrders=true)(hK:Q4r P Y.gl K){its:List It}(hits:∀it∈its,Jgk P Y.gl it∧Runs P it.f){f:FuncId}{fn:Func}(hf:P.funcs[f]?=some fn){an:AnR}{c:Con}(hcf:c.f=f)(hrun:∀x,c.fn x=Jkl Y K N its fn an c.ro c.Γ c.Δ x):Qa3 P Y.gl c:=by
 intro ok w L β ρ x y vs hok hG hlen hL hargs hy
 rw[hrun]at hy
 unfold Jkl at hy
 split at hy
 ·rename_i code hb
  obtain⟨hc,hy⟩:=bvT hy
  simp only[QQ]at hc
  rw[hcf]
  refine Jgl (n:=fn.ntmps) (m:=1) (L:=L) (O:=Qk β ρ (enc c.Γ x).mem) hok hf hb rfl (by rw[hlen]; exact hc.1) hL fun a h0=>?_
  have hR:=Jcl (Y:=Y) (fn:=fn) hc.2.1 hc.2.2 hok hG hL hargs h0
  have hGX:Ur Y.gl (okN (cxL L fn.ntmps ok w)) w:=hG.weak fun b o hbo=>⟨.inl hbo,fun hbl=>hL.2.2 b hbl |>.elim fun t ht=>(hL.1 t ht.1).2.2 b o ht.2 hbo,hok b o hbo⟩
  refine Qrg (X:=cxL L fn.ntmps ok w) hT hmix ⟨hK,hGX⟩ rfl rfl rfl rfl hits an hR hy fun D e β' ρ' S' a' w' h1 h2 h3 h4 h5=>?_
  have h6:=(h3.turn (o':=.deferred none) (show(cxL L fn.ntmps ok w).w.heap.size≤D from h5) h4 rfl (fun _ _=>by simp) rfl).withD []
  have h7:Rel (cxL L fn.ntmps ok w) β' ρ' S'.flat { a' with defers:=[] } (w'.putObj D (.deferred none)):=h6
  have key:=Jcn (Y:=Y) (y:=y) hT h2 h7
  have hdf:a'.defers=[⟨.collected D,#[]⟩]:=h3.df
  have fin2:fin Y fn c.Δ S'=some y→LeavesInM Fence.wide 1 P fn a'.tmps (Qzl L w (Q4k c β ρ ok L w x y)) a'.defers .returning w':=fun hfin=>by
   obtain⟨_,v,hres,v2,hv2,hpost⟩:=key hfin
   rw[hdf]
   refine⟨by simp,.inl ⟨D,_,rfl,run_takeDeferred h4,?_⟩⟩
   exact⟨v,hres,v2,hv2,hpost⟩
  cases e with
  | n=>exact fin2 h1
  | x i=>cases h1
  | r=>exact fin2 h1
 ·cases hy
end
end Gx
