/- A region, operation by operation. -/
import Derived.Test.YtjjpjagokgfbdaaGreatXM
namespace Gx
open Go Go.RowKit Gd
set_option linter.unusedVariables false
set_option linter.unusedSimpArgs false
section
variable {P:Program} {Y:TX} {X:Cx} {S:XS} {β β':Nat→Nat} {ρ ρ':Nat→Value} {a a':Act} {w w':World} {n:Nat}
variable {ops:Array Oper} {Q:Exit→Act→World→Prop} {rest:List Oper} {R:Type} {k:XS→Option R} {r:R}
theorem Qum(hT:Q4 P Y.T)(hX:X.n=n)(hr:X.res=[])(h:Rel X β ρ S.flat a w){o:Oper}(hw:Region.wanted o (yielded ops a.tmps)=true)(hs:Qgo Y n o S k=some r)(H:KOk P ops Q rest X S β ρ k r) :
  wpList P ops Q (o::rest) a w:=by
 unfold Qgo at hs
 split at hs
 ·
  rename_i t d kg hd
  split at hs
  ·rename_i e ty he hty
   split at hs
   ·rename_i c hc
    obtain⟨hb,hk⟩:=bvT hs
    simp only[QQ]at hb
    refine Jmj (cs:=Qu e.z) hX hr h hw hd hb.1.1.1 hb.1.1.2 ?_ (Ca hc) hb.2 hk H
    unfold execOp
    simp only[kg]
    simp[Instr.alloc,Vc hT w he,newVar,newRow,Vp]
   ·cases hs
  ·cases hs
 ·
  rename_i t x d kg hd
  split at hs
  ·rename_i c hc
   obtain⟨hb,hk⟩:=bvT hs
   simp only[QQ]at hb
   obtain⟨cs,h1,h2⟩:=h.ev (Qc a) hc
   refine Jmj (cs:=cs) hX hr h hw hd hb.1.1.1.1 hb.1.1.1.2 ?_ h2 hb.2 hk H
   have xl:=N3 h2 hb.1.1.2 hb.1.2
   have yg:(c.val cs).cells=cs.toArray:=by
    apply Array.ext'
    rw[←Vp,xl]
   unfold execOp
   simp only[kg,h1]
   simp[Instr.box,newVar,newRow,yg]
  ·cases hs
 ·
  rename_i t p x kg hd
  split at hs
  ·rename_i e id path v he hp hx
   split at hs
   ·rename_i tid c hm
    split at hs
    ·rename_i c' yp
     obtain⟨hb,hk⟩:=bvT hs
     simp only[QQ]at hb
     exact Q8k hT h hw kg hd he hp hx hm (fun _ h1 h2=>Tw h1 yp h2) hb.1.1 hb.1.2 hb.2 hk H
    ·cases hs
   ·cases hs
  ·rename_i e id j sz ps v he hp hx
   split at hs
   ·rename_i et u xs hm
    obtain⟨y,hy,hs⟩:=Yk hs
    split at hs
    ·rename_i c hc
     split at hs
     ·rename_i z0 hz
      obtain⟨hb,hk⟩:=bvT hs
      simp only[QQ]at hb
      exact Jbn hT h hw kg hd he hp hx hm hy hc hz hb.1.1.1.1 hb.1.1.1.2 hb.1.1.2 hb.1.2 hb.2 hk H
     ·cases hs
    ·cases hs
   ·cases hs
  ·cases hs
 ·
  rename_i t rs d kg hd
  split at hs
  ·rename_i te ku
   split at hs
   ·rename_i kt et kr
    split at hs
    ·rename_i kk v i7 hv
     obtain⟨hb,hk⟩:=bvT hs
     simp only[QQ]at hb
     have ao:rs=none:=by
      cases rs with
      | none=>rfl
      | some x=>simp[isNone]at hb
     subst ao
     exact Jbm hX hr h hw hd hb.1.1 hb.1.2 kg hk H
    ·cases hs
   ·cases hs
  ·cases hs
 ·
  rename_i t m ky x kg hd
  split at hs
  ·rename_i te id kv xv ku hm vt hx
   split at hs
   ·rename_i kt et kk v xs kr xt
    split at hs
    ·rename_i tk key y yu yf hy
     obtain⟨hb,hk⟩:=bvT hs
     simp only[QQ]at hb
     exact Q0z hT h hw kg hd ku kr yu hm vt hx xt yf hy hb.1.1 hb.1.2 hb.2 hk H
    ·cases hs
   ·cases hs
  ·cases hs
 ·
  rename_i t l c d kg hd
  split at hs
  ·rename_i te lv cv ku hl hc
   split at hs
   ·rename_i e k1 nl k2 nc zk hli hci
    split at hs
    ·rename_i ee u he hu
     split at hs
     ·rename_i za qx
      split at hs
      ·rename_i z0 hz
       obtain⟨hb,hs⟩:=bvT hs
       simp only[QQ]at hb
       obtain⟨zs,xf,hk⟩:=Yk hs
       exact Jpf hT hX hr h hw hd hb.1.1.1.1 hb.1.1.1.2 kg ku (Yw zk) he hl hc hli hci qx hz hb.1.1.2 hb.1.2 hb.2 xf hk H
      ·cases hs
     ·cases hs
    ·cases hs
   ·cases hs
  ·cases hs
 ·
  rename_i t len parts d kg hd
  split at hs
  ·rename_i te ku
   split at hs
   ·rename_i e zk
    split at hs
    ·rename_i ee u he hu
     obtain⟨hb,hs⟩:=bvT hs
     simp only[QQ]at hb
     split at hs
     ·obtain⟨yd,hk⟩:=bvT hs
      exact Jpg hT hX hr h hw hd hb.1 yd kg ku (Yw zk) he hb.2 hk H
     ·cases hs
     ·rename_i m
      split at hs
      ·rename_i vs sc
       split at hs
       ·rename_i xs wt
        obtain⟨yd,hk⟩:=bvT hs
        simp only[QQ]at yd
        exact Jqw hT hX hr h hw hd hb.1 kg ku (Yw zk) he hb.2 sc wt yd.1.1.1 yd.1.1.2 yd.1.2 yd.2 hk H
       ·cases hs
      ·cases hs
    ·cases hs
   ·cases hs
  ·cases hs
 ·
  rename_i s x t t' d kg hd
  split at hs
  ·rename_i te sv xv ku qc qa
   split at hs
   ·rename_i e zk
    split at hs
    ·rename_i ee he
     have hb:=(bvT hs).1
     replace hs:=(bvT hs).2
     simp only[QQ]at hb
     obtain⟨⟨⟨⟨b1,b2⟩,b3⟩,b4⟩,b5⟩:=hb
     have ett:=QJ b2
     subst ett
     split at hs
     ·split at hs
      ·rename_i u hu
       split at hs
       ·rename_i ys zp
        have yd:=(bvT hs).1
        replace hs:=(bvT hs).2
        simp only[QQ]at yd
        obtain⟨zs,xf,hk⟩:=Yk hs
        exact Jf8 hT hX hr h hw hd b1 yd.1 kg ku (Yw zk) he yd.2 b3 b4 b5 qc qa zp xf hk H
       ·cases hs
      ·cases hs
     ·split at hs
      ·rename_i u hu
       split at hs
       ·rename_i ys zp
        have yd:=(bvT hs).1
        replace hs:=(bvT hs).2
        simp only[QQ]at yd
        obtain⟨zs,xf,hk⟩:=Yk hs
        exact Jph hT hX hr h hw hd b1 yd.1 kg ku (Yw zk) he yd.2 b3 b4 b5 qc qa zp xf hk H
       ·cases hs
      ·cases hs
     ·rename_i id
      split at hs
      ·rename_i e' u xs hm
       split at hs
       ·rename_i ys zp
        have yd:=(bvT hs).1
        replace hs:=(bvT hs).2
        simp only[QQ]at yd
        have ee':=QJ yd.2
        subst ee'
        obtain⟨zs,xf,hk⟩:=Yk hs
        exact Jf9 hT hX hr h hw hd b1 yd.1.1 kg ku (Yw zk) he yd.1.2 b3 b4 b5 qc qa hm zp xf hk H
       ·cases hs
      ·rename_i e' u xs hm
       split at hs
       ·rename_i ys zp
        have yd:=(bvT hs).1
        replace hs:=(bvT hs).2
        simp only[QQ]at yd
        have ee':=QJ yd.2
        subst ee'
        obtain⟨zs,xf,hk⟩:=Yk hs
        exact Jbo hT hX hr h hw hd b1 yd.1.1 kg ku (Yw zk) he yd.1.2 b3 b4 b5 qc qa hm zp xf hk H
       ·cases hs
      ·cases hs
     ·cases hs
    ·cases hs
   ·cases hs
  ·cases hs
 ·
  obtain⟨hb,hs⟩:=bvT hs
  obtain⟨av,hk,ug⟩:=Q0q (P:=P) hT rfl hs
  exact Jf4 hX hr h hw (by assumption) hb ug hk H
 ·cases hs
theorem Jgd(hT:Q4 P Y.T)(hX:X.n=n)(hr:X.res=[])(h:Rel X β ρ S.flat a w){o:Oper}(hw:Region.wanted o (yielded ops a.tmps)=true)(hs:Qua Y n o S k=some r)(H:KOk P ops Q rest X S β ρ k r) :
  wpList P ops Q (o::rest) a w:=by
 unfold Qua at hs
 split at hs
 ·
  rename_i s x t t' d kg hd
  split at hs
  ·rename_i te te' sv l ku sq qc qa
   split at hs
   ·rename_i e zk
    split at hs
    ·rename_i ee he
     obtain⟨hb,hs⟩:=bvT hs
     simp only[QQ]at hb
     obtain⟨⟨⟨⟨b1,b2⟩,b3⟩,b4⟩,b5⟩:=hb
     have b2:=Jbp b2
     have b3:=Jkz b3
     have b4:=QJ b4
     have b5:=QJ b5
     split at hs
     ·obtain⟨yd,hs⟩:=bvT hs
      obtain⟨zs,xf,hk⟩:=Yk hs
      exact Jbr hT hX hr h hw hd b1 yd kg ku (Yw zk) sq b2 he b3 b4 b5 qc qa xf hk H
     ·rename_i id
      split at hs
      ·rename_i e' xs hm
       obtain⟨yd,yw⟩:=bvT hs
       simp only[QQ]at yd
       have ee':=QJ yd.2
       subst ee'
       obtain⟨zs,xf,hk⟩:=Yk yw
       exact Jbq hT hX hr h hw hd b1 yd.1 kg ku (Yw zk) sq b2 he b3 b4 b5 qc qa hm xf hk H
      ·cases hs
     ·cases hs
    ·cases hs
   ·cases hs
  ·cases hs
 ·
  rename_i s t x d kg hd
  split at hs
  ·rename_i se te l zk ku hx
   split at hs
   ·rename_i e wy
    split at hs
    ·rename_i ee he
     obtain⟨hb,hs⟩:=bvT hs
     simp only[QQ]at hb
     obtain⟨zs,xf,hk⟩:=Yk hs
     exact Q54 hT hX hr h hw hd hb.1.1 hb.1.2 kg zk ku (Yw wy) he (Jk0 hb.2) hx xf hk H
    ·cases hs
   ·cases hs
  ·cases hs
 ·
  rename_i t p x kg hd
  split at hs
  ·rename_i e id path v he hp hx
   split at hs
   ·rename_i tid c hm
    obtain⟨c',yp,wa⟩:=Qw6 hs
    obtain⟨hb,hk⟩:=bvT yp
    simp only[QQ]at hb
    exact Q8k hT h hw kg hd he hp hx hm (fun hM h1 h2=>wa hM h1 h2) hb.1.1 hb.1.2 hb.2 hk H
   ·cases hs
  ·cases hs
 ·
  rename_i dst src t t' d kg hd
  split at hs
  ·rename_i te id xv ku hdv qc
   split at hs
   ·rename_i e zk
    split at hs
    ·rename_i ee et u xs he hm
     split at hs
     ·rename_i ys zp
      obtain⟨hb,hk⟩:=bvT hs
      simp only[QQ]at hb
      exact Jpi hT hX hr h hw hd hb.1.1 kg ku (Yw zk) he hdv qc hm zp hb.1.2 hb.2 hk H
     ·cases hs
    ·cases hs
   ·cases hs
  ·cases hs
 ·
  rename_i m ky t t' kg hd
  split at hs
  ·rename_i te id kv ku hm vt
   split at hs
   ·rename_i kt et kk v xs kr xt
    split at hs
    ·rename_i tk key yu yf
     obtain⟨hb,hk⟩:=bvT hs
     simp only[QQ]at hb
     exact Jga hT h hw kg hd ku kr yu hm vt xt yf hb.1 hb.2 hk H
    ·cases hs
   ·cases hs
  ·cases hs
 ·
  rename_i t m ps d kg hd
  split at hs
  ·rename_i te ku
   split at hs
   ·rename_i e zk
    split at hs
    ·rename_i ee vs he sc
     split at hs
     ·rename_i c ik
      obtain⟨hb,hk⟩:=bvT hs
      simp only[QQ]at hb
      obtain⟨⟨⟨⟨⟨⟨b1,b2⟩,b3⟩,b4⟩,b5⟩,b6⟩,b7⟩:=hb
      exact Jgc hT hX hr h hw hd b1 b2 kg ku (Yw zk) he sc ik b3 b4 b5 b6 b7 hk H
     ·cases hs
    ·cases hs
   ·cases hs
  ·cases hs
 ·
  rename_i t x hi d kg hd
  split at hs
  ·rename_i te id ku hx
   split at hs
   ·rename_i e e' u xs zk hm
    split at hs
    ·rename_i ee q he hq
     obtain⟨hb,yw⟩:=bvT hs
     simp only[QQ]at hb
     have ee':=QJ hb.2
     subst ee'
     obtain⟨ys,zp,hk⟩:=Yk yw
     exact Jgb hT hX hr h hw hd hb.1.1.1 hb.1.1.2 kg ku (Yw zk) he hb.1.2 hx hm hq zp (.inl rfl) hk H
    ·cases hs
   ·cases hs
  ·cases hs
 ·
  rename_i t x hi mx d kg hd
  split at hs
  ·rename_i te id hv mv ku hx qy ra
   split at hs
   ·rename_i e e' u xs k1 q k2 m zk hm hib nw
    split at hs
    ·rename_i ee he
     obtain⟨hb,yw⟩:=bvT hs
     simp only[QQ]at hb
     have ee':=QJ hb.2
     subst ee'
     obtain⟨_,uz,hs3⟩:=Yk yw
     obtain⟨uz,_⟩:=bvT uz
     simp only[QQ,decide_eq_true_eq]at uz
     obtain⟨ys,zp,hk⟩:=Yk hs3
     have hq:bnd S.flat [] xs.length (some hi)=some q:=by
      have hhi':ev S.flat [] hi=some hv:=qy
      simp only[bnd,hhi',hib]
     exact Jgb hT hX hr h hw hd hb.1.1.1 hb.1.1.2 kg ku (Yw zk) he hb.1.2 hx hm hq zp (.inr ⟨hi,mx,k1,k2,m,rfl,rfl,h.toW.int (Qc a) qy hib,h.toW.int (Qc a) ra nw,uz.1,uz.2⟩) hk H
    ·cases hs
   ·cases hs
  ·cases hs
 ·cases hs
theorem Qqq(hT:Q4 P Y.T)(hX:X.n=n)(hr:X.res=[])(h:Rel X β ρ S.flat a w){o:Oper}(hw:Region.wanted o (yielded ops a.tmps)=true)(hs:Qma Y n o S k=some r)(H:KOk P ops Q rest X S β ρ k r) :
  wpList P ops Q (o::rest) a w:=by
 unfold Qma at hs
 split at hs
 ·exact Qum hT hX hr h hw hs H
 ·exact Jgd hT hX hr h hw hs H
theorem K6{o:Oper}(hg:o.guard=none)(y:Nat→Option Bool):Region.wanted o y=true:=by unfold Region.wanted; rw[hg]
theorem Vv{l:List Oper}{o:Oper}{t:Nat}{b:Bool}(hg:Qgm l o=some (some (t,b))):Region.wanted o (yielded ⟨l⟩ a.tmps)=true↔a.tmps[t]?=some (.bool b):=by
 unfold Qgm at hg
 split at hg
 ·cases hg
 ·rename_i j want hgd
  split at hg
  ·rename_i p hp
   split at hg
   ·rename_i t' ht
    simp at hg
    obtain⟨rfl,rfl⟩:=hg
    have xm:(Array.mk l)[j]?=some p:=by simpa using hp
    unfold Region.wanted
    rw[hgd]
    simp only[yielded,xm,QB,ht,beq_iff_eq]
    split
    ·rename_i b' yo
     rw[yo]
     constructor
     ·intro e; injection e with e; subst e; rfl
     ·intro e; injection e with e; injection e with e; subst e; rfl
    ·rename_i hn
     constructor
     ·intro e; cases e
     ·intro e; exact absurd e (hn want)
   ·cases hg
  ·cases hg
theorem Ls{l:List Oper}{o:Oper}(hg:Qgm l o=some none):o.guard=none:=by
 unfold Qgm at hg
 split at hg
 ·assumption
 ·split at hg
  ·split at hg<;>cases hg
  ·cases hg
theorem Qme{o:Oper}(hw:Region.wanted o (yielded ops a.tmps)=false)(h:wpList P ops Q rest (a.put o.dst undef) w):wpList P ops Q (o::rest) a w:=by
 unfold wpList
 rw[if_neg (by rw[hw]; simp)]
 exact h
theorem Q08(hX:X.n=n)(hr:X.res=[])(h:Rel X β ρ S.flat a w){o:Oper}(hw:Region.wanted o (yielded ops a.tmps)=false)(hs:Qcs n o S k=some r)(H:KOk P ops Q rest X S β ρ k r) :
  wpList P ops Q (o::rest) a w:=by
 refine Qme hw ?_
 unfold Qcs at hs
 split at hs
 ·rename_i d hd
  obtain⟨hb,hk⟩:=bvT hs
  obtain⟨h1,h2⟩:=Yy hb hX hr
  rw[hd]
  refine H β ρ _ _ _ hk (G1 S d [] _) ?_
  rw[Xs h2]
  exact h.put0 h1 (x:=.tp .nil) (c:=[.tuple #[]]) ⟨[],rfl,rfl⟩
 ·rename_i hd
  rw[hd]
  exact H β ρ _ _ _ hs (Y6.refl _ _ _) h
theorem Jge(hT:Q4 P Y.T)(hX:X.n=n)(hr:X.res=[])(h:Rel X β ρ S.flat a w){l:List Oper}{o:Oper}{t:Nat}{want:Bool}(hg:Qgm l o=some (some (t,want)))(hs:Qih Y n t want o S k=some r)(H:KOk P ⟨l⟩ Q rest X S β ρ k r) :
  wpList P ⟨l⟩ Q (o::rest) a w:=by
 unfold Qih at hs
 split at hs
 ·rename_i t' cs b d he hd
  obtain⟨hb,hs⟩:=bvT hs
  simp only[QQ]at hb
  obtain⟨h1,h2⟩:=Yy hb.1.1 hX hr
  have kr:=neB hb.1.2
  have hud:∀c∈cs,c.1≠d:=Qcn (by simpa using hb.2)
  split at hs
  ·rename_i v hv
   obtain⟨hm,zb⟩:=U2 he
   simp only at zb
   subst zb
   have xu:∀u:Value,Ju (a.put (some d) u) ((t',want)::cs)↔Ju a ((t',want)::cs):=by
    intro u
    have k8:∀c∈(t',want)::cs,c.1≠d:=by
     intro c hc
     rcases QX.1 hc with rfl | hc
     ·exact kr
     ·exact hud c hc
    exact⟨fun hc c hm=>by rw[←Y7 (k8 c hm) u]; exact hc c hm,fun hc c hm=>by rw[Y7 (k8 c hm) u]; exact hc c hm⟩
   by_cases hw:Region.wanted o (yielded ⟨l⟩ a.tmps)=true
   ·have vu:=(Vv hg).1 hw
    have zr:Ju a cs:=by
     rcases(h.en hm).2 with h3 | h3
     ·exact h3
     ·simp only at h3; rw[L0 (Qcm he),vu]at h3; simp[undef]at h3
    have vn:Ju a ((t',want)::cs):=by
     intro c hc
     rcases QX.1 hc with rfl | hc
     ·exact vu
     ·exact zr c hc
    obtain⟨c,h3,h4⟩:=Qie hT h.toW vn hv
    refine Jl hw (Yo h3 ?_)
    rw[hd]
    refine H β ρ _ _ _ hs (G1 S d _ _) ?_
    rw[Xs h2]
    exact h.put h1 (fun _=>⟨c,rfl,h4⟩) (.inl ((xu _).2 vn))
   ·have nq:Region.wanted o (yielded ⟨l⟩ a.tmps)=false:=by simpa using hw
    refine Qme nq ?_
    rw[hd]
    refine H β ρ _ _ _ hs (G1 S d _ _) ?_
    rw[Xs h2]
    refine h.put h1 (fun hc=>?_) (.inr rfl)
    have:=(xu _).1 hc
    exact absurd ((Vv hg).2 (this _ (.head _))) hw
  ·cases hs
 ·cases hs
theorem Jgf(hT:Q4 P Y.T)(hX:X.n=n)(hr:X.res=[]){l:List Oper}(h:Rel X β ρ S.flat a w){o:Oper}(hs:Qii Y n l o S k=some r)(H:KOk P ⟨l⟩ Q rest X S β ρ k r):wpList P ⟨l⟩ Q (o::rest) a w:=by
 unfold Qii at hs
 split at hs
 ·rename_i hg
  exact Qqq hT hX hr h (K6 (Ls hg) _) hs H
 ·rename_i t want hg
  exact Jge hT hX hr h hg hs H
 ·cases hs
theorem Jgg(hT:Q4 P Y.T)(hX:X.n=n)(hr:X.res=[]){l:List Oper}(h:Rel X β ρ S.flat a w){o:Oper}(hs:Gx.stepL Y n l o S k=some r)(H:KOk P ⟨l⟩ Q rest X S β ρ k r):wpList P ⟨l⟩ Q (o::rest) a w:=by
 unfold Gx.stepL at hs
 split at hs
 ·rename_i hg
  exact Qqq hT hX hr h (K6 (Ls hg) _) hs H
 ·rename_i t want hg
  split at hs
  ·rename_i t' b he
   obtain⟨cs,h1,h2⟩:=h.get he (Qc a)
   have zj:cs=_:=h2
   subst zj
   have k5:a.tmps[t]?=some (.bool b):=h1
   split at hs
   ·rename_i hb
    have:b=want:=by simpa using hb
    subst this
    exact Qqq hT hX hr h ((Vv hg).2 k5) hs H
   ·rename_i hb
    refine Q08 hX hr h ?_ hs H
    have k8:b≠want:=by simpa using hb
    cases hw:Region.wanted o (yielded ⟨l⟩ a.tmps)with
    | false=>rfl
    | true =>
     have:=(Vv hg).1 hw
     rw[k5]at this
     injection this with this
     injection this with this
     exact absurd this k8
  ·rename_i t' he
   obtain⟨cs,h1,vs,h2,h3⟩:=h.get he (Qc a)
   subst h2
   refine Q08 hX hr h ?_ hs H
   cases hw:Region.wanted o (yielded ⟨l⟩ a.tmps)with
   | false=>rfl
   | true =>
    have:=(Vv hg).1 hw
    rw[h1]at this
    injection this with this
    cases this
  ·cases hs
 ·cases hs
theorem Qxk{l:List Oper}(st:Oper→XS→(XS→Option R)→Option R)
  (zg:∀{o:Oper} {rest:List Oper} {S:XS} {β:Nat→Nat} {ρ:Nat→Value} {a:Act} {w:World} {k:XS→Option R},Rel X β ρ S.flat a w→st o S k=some r→KOk P ⟨l⟩ Q rest X S β ρ k r→wpList P ⟨l⟩ Q (o::rest) a w) :
  ∀{l1 rest:List Oper} {S:XS} {β:Nat→Nat} {ρ:Nat→Value} {a:Act} {w:World} {k:XS→Option R},Rel X β ρ S.flat a w→Qng st l1 S k=some r→KOk P ⟨l⟩ Q rest X S β ρ k r→wpList P ⟨l⟩ Q (l1++rest) a w
 | [],rest,S,β,ρ,a,w,k,h,hs,H=>H β ρ S a w hs (Y6.refl _ _ _) h
 | o::l1,rest,S,β,ρ,a,w,k,h,hs,H=>by
  simp only[Qng]at hs
  refine zg (rest:=l1++rest) h hs fun β' ρ' S' a' w' hk xu h'=>?_
  exact Qxk st zg h' hk (H.after xu)
end
end Gx

/- A map's entry that is made first and written then. -/
namespace Gx
open Go Go.RowKit Gd
set_option linter.unusedVariables false
set_option linter.unusedSimpArgs false
section
variable {P:Program} {T:Tab}
theorem Jbu{es:Array MapEntry}(zg:(es.toList.map MapEntry.born).Nodup){j:Nat}{e:MapEntry}(hj:es.toList[j]?=some e):es.findIdx? (fun x=>(x.born:Int)==(e.born:Int))=some j:=by
 obtain⟨hl,hj⟩:=QK.1 hj
 have qn:j<es.size:=by simpa using hl
 rw[Array.findIdx?_eq_some_iff_getElem]
 refine⟨qn,by simp only[WX]at hj; simp[hj],fun i hi=>?_⟩
 have ue:i≠j:=WY hi
 have h1:i<(es.toList.map MapEntry.born).length:=by simp; omega
 have h2:j<(es.toList.map MapEntry.born).length:=by simpa using hl
 have k8:(es.toList.map MapEntry.born)[i]≠(es.toList.map MapEntry.born)[j]:=fun h=>ue ((List.getElem_inj zg).1 h)
 simp only[KF,WX]at k8 hj
 rw[hj]at k8
 simpa using fun h:((es[i]'(by omega)).born:Int)=(e.born:Int)=>k8 (by exact_mod_cast h)
theorem Qmf{es:Array MapEntry}{j:Nat}{f:MapEntry→MapEntry}(hf:∀e,(f e).born=e.born):((es.modify j f).toList.map MapEntry.born)=es.toList.map MapEntry.born:=by
 apply ZU
 intro i
 simp only[VW,ZM,ZQ]
 split
 ·cases es[i]?<;>simp[hf]
 ·rfl
theorem Qun{es:Array MapEntry}{clock:Nat}(zg:Fy es clock){j:Nat}{f:MapEntry→MapEntry}(hf:∀e,(f e).born=e.born):Fy (es.modify j f) clock:=by
 refine⟨by rw[Qmf hf]; exact zg.1,fun e he=>?_⟩
 have hb:e.born∈(es.modify j f).toList.map MapEntry.born:=QY.2 ⟨e,he,rfl⟩
 rw[Qmf hf]at hb
 obtain⟨e',um,bp⟩:=QY.1 hb
 rw[←bp]; exact zg.2 e' um
theorem Qko{k:Ty}(hk:Tt k=true){ν:Type}{s:RT ν}{ok:Ok}{w:World}:∀{xs:List (k.De×ν)} {es:List MapEntry},Xq (rt k) s ok w xs es→es.map MapEntry.key=xs.map fun q=>Yf k q.1
 | [],es,h=>by cases(show es=[]from h); rfl
 | x::xs,es,h=>by
  obtain⟨e,es',rfl,h1,_,h3⟩:=h
  simp[Ga hk h1,Qko hk h3]
theorem Q09(hT:Q4 P T){kt:TypeId}{te:TE}(ht:Qh T kt=some te){k:Ty}(hd:Yu T k te.d=true){x y:k.De}(w:World)(h:Yf k x=Yf k y):x=y:=by
 have h1:=L2 hT ht hd x y w
 have h2:=L2 hT ht hd x x w
 rw[←h]at h1
 rw[h1]at h2
 injection h2 with h2
 exact(Zf (Jy hd)).1 (h2.trans ((Zf (Jy hd)).2 rfl))
theorem Qxl(hT:Q4 P T){t kt et:TypeId}{te tk tz:TE}(ht:Qh T t=some te)(kr:te.d=.map kt et)(hk:Qh T kt=some tk)(hz:Qh T et=some tz)
  {k:Ty} {ν:Type} {s:RT ν} (hd:Yu T k tk.d=true) {ok:Ok} {w:World} {g:Nat} {es:Array MapEntry} {clock:Nat} (hg:w.heap[g]?=some (.map es clock)) {xs:List (k.De×ν)} (hp:Xq (rt k) s ok w xs es.toList) (zg:Fy es clock)
  (key:k.De) {z:ν} (l6:isV s ok w z tz.z) :
  ∃es1 clock1 u b,(Instr.mapEntry t (.map (some g)) (Yf k key)).run P w=.ok (.tuple #[u,.int .i64 ((b:Nat):Int)]) { w with heap:=w.heap.setIfInBounds g (.map es1 clock1) } ∧
   Xq (rt k) s ok w (Ya key ((Qr key xs).getD z) xs) es1.toList∧Fy es1 clock1∧(∃e∈es1.toList,e.key=Yf k key∧e.born=b)∧isV s ok w ((Qr key xs).getD z) u:=by
 have hu:=(Jm hT ht).2
 rw[kr]at hu
 have ab:(zeroValue et).run P w=.ok tz.z w:=Vc hT w hz
 rcases Rr hT hk hd key w hp with⟨r1,r2⟩ | ⟨j,e,y,r1,r2,r3,r4,r5⟩
 ·rw[r1]
  rcases Qh9 hT hk hd key l6 hp with⟨q1,q2⟩ | ⟨j,e,q2,q3,q4,q5⟩
  ·refine⟨es.push ⟨Yf k key,tz.z,clock⟩,clock+1,tz.z,clock,?_,by simpa using q2 clock,Qpy zg _ _,⟨⟨Yf k key,tz.z,clock⟩,by simp,rfl,rfl⟩,l6⟩
   simp[Instr.mapEntry,run_underlying hu,MapKept.run_getObj_map hg,Xb hT hk hd,r2,ab,MapKept.run_setObj_map _ hg,Result.andThen,goInt]
  ·have h2:=q2 0
   rw[QE]at h2
   rw[L4 hT hk hd key w hp h2]at r2
   cases r2
 ·rw[r1]
  rcases Qh9 hT hk hd key r5 hp with⟨q1,q2⟩ | ⟨j',e',q2,q3,q4,q5⟩
  ·rw[q1]at r1; cases r1
  ·have h2:=q2 0
   rw[QE]at h2
   have h3:=L4 hT hk hd key w hp h2
   rw[h3]at r2
   injection r2 with r2
   injection r2 with r2
   injection r2 with r2 r2'
   subst r2
   rw[q3]at r3
   injection r3 with r3
   subst r3
   have q3':es[j']?=some e':=by simpa using q3
   refine⟨es.modify j' fun e=>{ e with key:=Yf k key },clock,e'.val,e'.born,?_,?_,Qun zg (fun _=>rfl),⟨{ e' with key:=Yf k key },?_,rfl,rfl⟩,r5⟩
   ·simp[Instr.mapEntry,run_underlying hu,MapKept.run_getObj_map hg,Xb hT hk hd,h3,q3',q4,Qt2 (Jy hd),MapKept.run_setObj_map _ hg,Result.andThen,goInt]
   ·have e1:(es.modify j' fun e=>{ e with key:=Yf k key }).toList=es.toList.modify j' fun e=>{ e with key:=Yf k key,val:=e'.val }:=by
     apply ZU
     intro i
     simp only[ZM,ZQ,WZ]
     split
     ·subst_vars; simp[q3']
     ·simp
    show Xq (rt k) s ok w (Ya key y xs) _
    rw[e1]; exact q5
   ·refine JM (i:=j') ?_
    simp[ZQ,q3']
theorem Qqr(hT:Q4 P T){t kt:TypeId}{tk:TE}(hk:Qh T kt=some tk)
  {k:Ty} {ν:Type} {s:RT ν} (hd:Yu T k tk.d=true) {ok:Ok} {w:World} {g:Nat} {es:Array MapEntry} {clock:Nat} (hg:w.heap[g]?=some (.map es clock)) {xs:List (k.De×ν)} (hp:Xq (rt k) s ok w xs es.toList) (zg:Fy es clock) (ye:(xs.map Prod.fst).Nodup)
  (key:k.De) {y:ν} {v:Value} (hv:isV s ok w y v) {e:MapEntry} (he:e∈es.toList) (fh:e.key=Yf k key) :
  ∃es',(Instr.entryStore t (.map (some g)) (.int .i64 ((e.born:Nat):Int)) v).run P w=.ok () { w with heap:=w.heap.setIfInBounds g (.map es' clock) }∧Xq (rt k) s ok w (Ya key y xs) es'.toList∧Fy es' clock:=by
 obtain⟨j,hj⟩:=XC he
 have hf:=Jbu zg.1 hj
 have hkn:(es.toList.map MapEntry.key).Nodup:=by
  rw[Qko (Jy hd) hp,show(xs.map fun q=>Yf k q.1)=(xs.map Prod.fst).map (Yf k)from by simp]
  exact ye.map _ fun a b rh h=>rh (Q09 hT hk hd w h)
 have ka:(Instr.entryStore t (.map (some g)) (.int .i64 ((e.born:Nat):Int)) v).run P w=.ok () { w with heap:=w.heap.setIfInBounds g (.map (es.modify j fun e=>{ e with val:=v }) clock) }:=by
  simp[Instr.entryStore,MapKept.run_getObj_map hg,asInt,asIntOf,hf,MapKept.run_setObj_map _ hg,Result.andThen]
 refine⟨_,ka,?_,Qun zg fun _=>rfl⟩
 rcases Qh9 hT hk hd key hv hp with⟨q1,q2⟩ | ⟨j',e',q2,q3,q4,q5⟩
 ·rcases Rr hT hk hd key w hp with⟨r1,r2⟩ | ⟨j2,e2,y2,r1,_⟩
  ·exfalso
   have hm:Yf k key∈es.toList.map MapEntry.key:=QY.2 ⟨e,he,fh⟩
   rw[Qko (Jy hd) hp]at hm
   obtain⟨q,hq,hqk⟩:=QY.1 hm
   have:=Q09 hT hk hd w hqk
   subst this
   clear q2 r2 r1 ye hkn hp hm
   induction xs with
   | nil=>cases hq
   | cons x xs ih =>
    simp only[Qr]at q1
    cases hb:eqK k q.1 x.1 with
    | true=>rw[hb]at q1; cases q1
    | false =>
     rw[hb]at q1
     rcases QX.1 hq with rfl | hq
     ·rw[(Zf (Jy hd)).2 rfl]at hb; cases hb
     ·exact ih hq q1
  ·rw[q1]at r1; cases r1
 ·have hjj:j=j':=by
   have h1:=(QK.1 hj)
   have h2:=(QK.1 q3)
   have g1:(es.toList.map MapEntry.key)[j]'(by simpa using h1.1)=(es.toList.map MapEntry.key)[j']'(by simpa using h2.1):=by
    rw[KF,KF,h1.2,h2.2,fh,q4]
   exact(List.getElem_inj hkn).1 g1
  subst hjj
  have e1:(es.modify j fun e=>{ e with val:=v }).toList=es.toList.modify j fun e=>{ e with key:=Yf k key,val:=v }:=by
   have n0:es[j]?=some e:=by simpa using hj
   apply ZU
   intro i
   simp only[ZM,ZQ,WZ]
   split
   ·subst_vars; simp[n0,fh]
   ·simp
  rw[e1]; exact q5
end
section
variable {P:Program} {Y:TX} {X:Cx} {S:XS} {β β':Nat→Nat} {ρ ρ':Nat→Value} {a a':Act} {w w':World} {n:Nat}
variable {ops:Array Oper} {Q:Exit→Act→World→Prop} {rest:List Oper} {R:Type} {k:XS→Option R} {r:R}
theorem Q1a{M:List (Nat×Ob)}{id:Nat}{ob:Ob}(hm:Qe M id=some ob)(ud:∀o,(Qx β ρ id ob).cov (β id) o){o:Obj}:Evo (okR X β ρ M w) w { w with heap:=w.heap.setIfInBounds (β id) o }:=by
 obtain⟨l1,l2,e1,_,_⟩:=Jj hm
 refine Evo.of_blocks (by simp) fun b f hk=>?_
 have k8:β id≠b:=fun e=>hk.2.2.2 (Qx β ρ id ob) (by rw[e1]; simp[Qg]) (e▸ud f)
 simp[ZL,k8]
theorem Q8p{M:List (Nat×Ob)}{id:Nat}{ob ob':Ob}(hm:Qe M id=some ob)(hc:∀b f,(Qx β ρ id ob').cov b f→(Qx β ρ id ob).cov b f){o:Obj}:∀b f,okR X β ρ M w b f→okR X β ρ (Nv M id ob') { w with heap:=w.heap.setIfInBounds (β id) o } b f:=by
 obtain⟨l1,l2,e1,e2,_⟩:=Jj hm
 rintro b f ⟨h1,h2,h3,h4⟩
 refine⟨h1,by simpa using h2,h3,fun t ht=>?_⟩
 rw[e2]at ht
 obtain⟨q,hq,rfl⟩:=QY.1 ht
 rcases QW.1 hq with hq | hq
 ·exact h4 _ (by rw[e1]; exact QY.2 ⟨q,by simp[hq],rfl⟩)
 ·rcases QX.1 hq with rfl | hq
  ·exact fun y7=>h4 (Qx β ρ id ob) (by rw[e1]; simp[Qg]) (hc b f y7)
  ·exact h4 _ (by rw[e1]; exact QY.2 ⟨q,by simp[hq],rfl⟩)
theorem Rel.turnM{env:List En}{M:List (Nat×Ob)}(h:Rel X β ρ ⟨env,M⟩ a w){id:Nat}{ob ob':Ob}(hm:Qe M id=some ob)(fi:∀b o,(Qx β ρ id ob).blks b→(Qx β ρ id ob).cov b o)(yd:∀g,(Qx β ρ id ob').blks g→(Qx β ρ id ob).blks g){o:Obj}
  (ud:(Qx β ρ id ob).blks (β id)) (hq:(Qx β ρ id ob').p (okR X β ρ (Nv M id ob') { w with heap:=w.heap.setIfInBounds (β id) o }) { w with heap:=w.heap.setIfInBounds (β id) o }) :
  Rel X β ρ ⟨env,Nv M id ob'⟩ a { w with heap:=w.heap.setIfInBounds (β id) o }:=by
 obtain⟨l1,l2,e1,e2,e3⟩:=Jj hm
 have hO:Qg β ρ M=Qg β ρ l1++Qx β ρ id ob::Qg β ρ l2:=by rw[e1]; simp[Qg]
 have ke:Qg β ρ (l1++(id,ob')::l2)=Qg β ρ l1++Qx β ρ id ob'::Qg β ρ l2:=by simp[Qg]
 have hS:=Sb.upd h hO (t':=Qx β ρ id ob') (w':={ w with heap:=w.heap.setIfInBounds (β id) o }) rfl rfl rfl (by simp) (fun b hb hn=>by
   have k8:β id≠b:=fun e=>hn (e▸ud)
   simp[ZL,k8]) fi (fun g hg=>.inl (yd g hg)) (fun kq kj=>by rw[←ke,←e2]; exact hq)
 rw[e2]
 exact Rel.ofSb hS ke.symm fun e he=>by
  have:=Jg.1 hS.dat _ (QY.2 ⟨e,he,rfl⟩)
  rw[←ke]at this
  exact this
theorem Q56(hT:Q4 P Y.T)(hX:X.n=n)(hr:X.res=[])(h:Rel X β ρ S.flat a w){o:Oper}(hw:Region.wanted o (yielded ops a.tmps)=true){t:TypeId}{m ky:Operand}{d:Nat}(kg:o.op=.mapEntry t m ky)(hd:o.dst=some d){te tk tz:TE}{kt et:TypeId}(ku:Qh Y.T t=some te)(kr:te.d=.map kt et)(yu:Qh Y.T kt=some tk)(mj:Qh Y.T et=some tz)
  {id:Nat} {kv za:AV} {kk v:Ty} {xs:List (kk.De×v.De)} {key:kk.De} {z:v.De} (hm:S.ev [] m=some (.m id)) (vt:S.ev [] ky=some kv) (xt:Qe S.mem id=some (.map kk v xs)) (yf:asD [] kv kk=some key) (qx:L5 v tz.z=some za) (hz:asD [] za v=some z)
  (zl:okW n S d=true) (hb:okB S d=true) (wh:Yu Y.T kk tk.d=true) (rz:(kk.agg==kv.isAgg)=true) (iy:(v.agg==Qgj tz.z)=true)
  (hk:k ((XS.mk (Yv d S.env) S.fix (Nv S.mem id (.mapE kk v (Ya key ((Qr key xs).getD z) xs) key d)) S.fixM S.prot).put d [] (.tp (.cons (.d v ((Qr key xs).getD z)) (.cons (.b d) .nil))))=some r) (H:KOk P ops Q rest X S β ρ k r):wpList P ops Q (o::rest) a w:=by
 obtain⟨h1,h2⟩:=Yy zl hX hr
 obtain⟨f1,f2,f3⟩:=Ge hb
 obtain⟨c1,g1,g2⟩:=h.ev (Qc a) hm
 have g2':c1=[.map (some (β id))]:=g2
 subst g2'
 have g1':a.eval m=.map (some (β id)):=g1
 obtain⟨c3,h3,h4⟩:=h.ev (Qc a) vt
 have mn:isV (rt kk) (okR X β ρ S.flat.mem w) w key (a.eval ky):=by
  refine⟨c3,Z6 (M:=[]) (β:=β) (ρ:=ρ) (by simp[Qe]) yf h4,?_⟩
  rw[h3]; simp only[AV.val,RT.val,B7,bEq rz]; cases kv.isAgg<;>rfl
 have pg:=Ga (Jy wh) mn
 have zz:Qe S.flat.mem id=some (.map kk v xs):=Q0 xt
 obtain⟨⟨es,clock,hg,hp,ye,sf,sg⟩,zd⟩:=h.ob zz
 have l6:isV (rt v) (okR X β ρ S.flat.mem w) w z tz.z:=⟨Qu tz.z,Z6 (M:=[]) (β:=β) (ρ:=ρ) (by simp[Qe]) hz (Ca qx),(Qkb (bEq iy)).symm⟩
 obtain⟨es1,clock1,u,b,ka,eu,wi,⟨e0,qg,zw,he2⟩,hu⟩:=Qxl hT ku kr yu mj wh hg hp ⟨sf,sg⟩ key l6
 have z8:(execOp a.eval o).run P w=.ok (.value (.tuple #[u,.int .i64 ((b:Nat):Int)])) { w with heap:=w.heap.setIfInBounds (β id) (.map es1 clock1) }:=by
  unfold execOp
  rw[kg]
  simp only[g1',pg]
  simp[ka]
 refine Jl hw (Yo z8 ?_)
 rw[hd]
 have k8:id≠d:=by
  obtain⟨l1,l2,e1,_⟩:=Jj zz
  have vg:(id,Ob.map kk v xs)∈S.mem++S.fixM:=by
   rw[show S.mem++S.fixM=S.flat.mem from rfl,e1]; simp
  exact(X6 f1 _ vg).1
 have hid:upd β d b id=β id:=Zq _ _ k8
 have ha:=Qep d β ρ b (ρ d)
 have yc:=h.off ha f1 (env':=Js (Yv d S.env) d++S.fix) fun e he=>let⟨q1,q2,_⟩:=C8 f2 h2 e he; ⟨q1,q2⟩
 have sim:=Xc.ok (N7 ha f1) (w:=w) (ok0:=X.ok) (B:=X.w.heap.size) (β:=fun _=>0) (H:=[])
 have fc:Qe (S.mem++S.fixM) id=some (.map kk v xs):=zz
 have yx:=Q1a (X:=X) (β:=upd β d b) (ρ:=upd ρ d (ρ d)) (w:=w) (o:=.map es1 clock1) fc (fun _=>rfl)
 have kj:=Q8p (X:=X) (β:=upd β d b) (ρ:=upd ρ d (ρ d)) (w:=w) (o:=.map es1 clock1) (ob':=.mapE kk v (Ya key ((Qr key xs).getD z) xs) key d) fc (fun _ _ h=>h)
 have hT1:=yc.turnM (ob':=.mapE kk v (Ya key ((Qr key xs).getD z) xs) key d) (o:=.map es1 clock1) fc (fun b o h=>h) (fun g h=>h) rfl ?_
 ·have hu1:=((hu.weak sim).evo yx).weak kj
  obtain⟨cu,ai,hu3⟩:=hu1
  have hP:=hT1.put0 h1 (x:=.tp (.cons (.d v ((Qr key xs).getD z)) (.cons (.b d) .nil))) (c:=[.tuple #[u,.int .i64 ((b:Nat):Int)]]) ⟨[u,.int .i64 ((b:Nat):Int)],rfl,cu,[.int .i64 ((b:Nat):Int)],?_,ai,[.int .i64 ((b:Nat):Int)],[],rfl,?_,rfl⟩
  ·rw[hid]at hP
   refine H (upd β d b) (upd ρ d (ρ d)) _ _ _ hk ⟨rfl,rfl,rfl,Wi f3 ha⟩ ?_
   have hE:(XS.put (XS.mk (Yv d S.env) S.fix (Nv S.mem id (.mapE kk v (Ya key ((Qr key xs).getD z) xs) key d)) S.fixM S.prot) d [] (.tp (.cons (.d v ((Qr key xs).getD z)) (.cons (.b d) .nil)))).flat=⟨⟨d,[],.tp (.cons (.d v ((Qr key xs).getD z)) (.cons (.b d) .nil))⟩::(Js (Yv d S.env) d++S.fix),Nv (S.mem++S.fixM) id (.mapE kk v (Ya key ((Qr key xs).getD z) xs) key d)⟩:=by
    simp only[XS.flat,XS.put,QA]
    rw[K4 xt]
   rw[hE]
   refine hP.less fun e hm=>?_
   rcases QX.1 hm with rfl | hm
   ·exact .head _
   ·refine .tail _ ?_
    have:Js (Js (Yv d S.env) d++S.fix) d=Js (Yv d S.env) d++S.fix:=by
     rw[K3 h2,Qqm]
    show e∈Js (Js (Yv d S.env) d++S.fix) d
    rw[this]; exact hm
  ·rw[hu3]; simp only[AV.val,RT.val,B7,AV.isAgg]; cases v.agg<;>rfl
  ·show [Value.int .i64 ((b:Nat):Int)]=[.int .i64 ((upd β d b d:Nat):Int)]
   rw[Jd]
 ·have hgl:β id<w.heap.size:=Yi hg
  refine⟨es1,clock1,?_,Vq (W9 (Vq eu sim) yx) kj,(Lr (Jy wh) key _ ye).1,wi.1,wi.2,e0,qg,zw▸Qwz (Jy wh) key,by rw[he2,Jd]⟩
  rw[hid]; exact(MapKept.heap_set hg).1
theorem Qxm(hT:Q4 P Y.T)(h:Rel X β ρ S.flat a w){o:Oper}(hw:Region.wanted o (yielded ops a.tmps)=true){t:TypeId}{m st x:Operand}(kg:o.op=.entryStore t m st x)(hd:o.dst=none){tk:TE}{kt:TypeId}(yu:Qh Y.T kt=some tk)
  {id j:Nat} {xv:AV} {kk v:Ty} {xs:List (kk.De×v.De)} {key:kk.De} {y:v.De} (hm:S.ev [] m=some (.m id)) (zg:S.ev [] st=some (.b j)) (hx:S.ev [] x=some xv) (xt:Qe S.mem id=some (.mapE kk v xs key j)) (hy:asD S.flat.mem xv v=some y)
  (wh:Yu Y.T kk tk.d=true) (iy:(v.agg==xv.isAgg)=true)
  (hk:k (S.set id (.map kk v (Ya key y xs)))=some r) (H:KOk P ops Q rest X S β ρ k r):wpList P ops Q (o::rest) a w:=by
 obtain⟨c1,g1,g2⟩:=h.ev (Qc a) hm
 have g2':c1=[.map (some (β id))]:=g2
 subst g2'
 have g1':a.eval m=.map (some (β id)):=g1
 obtain⟨c2,g3,g4⟩:=h.ev (Qc a) zg
 have g4':c2=[.int .i64 ((β j:Nat):Int)]:=g4
 subst g4'
 have g3':a.eval st=.int .i64 ((β j:Nat):Int):=g3
 have qa:isV (rt v) (okR X β ρ S.flat.mem w) w y (a.eval x):=h.asD (Qc a) hx hy (bEq iy)
 have zz:Qe S.flat.mem id=some (.mapE kk v xs key j):=Q0 xt
 obtain⟨⟨es,clock,hg,hp,ye,sf,sg,e0,qg,zw,he2⟩,zd⟩:=h.ob zz
 obtain⟨es',ka,xm,wi⟩:=Qqr (t:=t) hT yu wh hg hp ⟨sf,sg⟩ ye key qa qg (Ga (Jy wh) zw)
 rw[he2]at ka
 have z8:(execOp a.eval o).run P w=.ok .skip { w with heap:=w.heap.setIfInBounds (β id) (.map es' clock) }:=by
  unfold execOp
  rw[kg]
  simp only[g1',g3']
  simp[ka]
 refine Jl hw ?_
 unfold Oper.wp
 rw[z8]
 show wpList P ops Q rest (a.put o.dst undef) _
 rw[hd]
 have hE:(S.set id (.map kk v (Ya key y xs))).flat=⟨S.flat.env,Nv S.flat.mem id (.map kk v (Ya key y xs))⟩:=by
  simp only[XS.flat,XS.set]
  rw[K4 xt]
 refine H β ρ _ _ _ hk ⟨rfl,rfl,rfl,agP.refl _ _ _⟩ ?_
 rw[hE]
 have yx:=Q1a (X:=X) (β:=β) (ρ:=ρ) (w:=w) (o:=.map es' clock) zz (fun _=>rfl)
 have kj:=Q8p (X:=X) (β:=β) (ρ:=ρ) (w:=w) (o:=.map es' clock) (ob':=.map kk v (Ya key y xs)) zz (fun _ _ h=>h)
 exact Rel.turnM (env:=S.flat.env) h (ob':=.map kk v (Ya key y xs)) (o:=.map es' clock) zz (fun b o h=>h) (fun g h=>h) rfl
  ⟨es',clock,(MapKept.heap_set hg).1,Vq (W9 xm yx) kj,(Lr (Jy wh) key y ye).1,wi.1,wi.2⟩
end
end Gx

/- Literals as rows; maps whose values are objects of their own. -/
namespace Gx
open Go Go.RowKit Gd
set_option linter.unusedVariables false
set_option linter.unusedSimpArgs false
theorem Q1b{v:Value}(h:Qp5 v=true):v=.map none:=by
 unfold Qp5 at h
 split at h
 ·rfl
 ·cases h
theorem Q57{v:Value}(h:Qxa v=true):v=.slice none 0 0:=by
 unfold Qxa at h
 split at h
 ·rfl
 ·cases h
def Jqx:CK→Value
 | .sl _ _=>.slice none 0 0
 | .mp _ _=>.map none
theorem Quo{c:CK}{v:Value}(h:Q5v c v=true):v=Jqx c:=by
 cases c with
 | sl e u=>exact Q57 h
 | mp k w=>exact Q1b h
theorem Jgh{c:CK}:(Jqx c).oneCell'=true:=by cases c<;>rfl
theorem Jgi{β:Nat→Nat}{ρ:Nat→Value}{ok:Ok}{w:World}{M:List (Nat×Ob)}(hM:∀id o,Qe M id=some o→(Qx β ρ id o).p ok w){R:Type}{kk:Ty}(hk:Tt kk=true){c:CK}{xs:List (kk.De×c.ty.De)}{hole:Option (kk.De×Nat)}{key:kk.De}{vs:List Value}{ys:List (kk.De×Value)}
  (yj:B8 c (Q0b hole) (Lz β ρ c hole) ok w xs ys vs) (u4:∀k,Q0b hole=some k→k∉xs.map Prod.fst→Lz β ρ c hole=.slice none 0 0) {z:Value} (hz:Q5v c z=true) {av:AV}
  (iq:(∃q,hole=some q∧Ea (Qmb c (Qe M q.2))=true∧eqK kk key q.1=true∧av=avC c q.2)∨(hole=none∧(∃k v,c=.mp k v)∧Qr key xs=none∧av=.nm)) :
  ∃cs,(Qr key ys).getD z=av.val cs∧cr β ρ ok w false av cs:=by
 have hz:=Quo hz
 rcases iq with⟨q,rfl,hq,he,rfl⟩ | ⟨rfl,⟨k2,v2,rfl⟩,hn,rfl⟩
 ·have hkq:=(Zf hk).1 he
  have hzal:zal ((Qr key ys).getD z) (Lz β ρ c (some q)):=by
   rcases Qkf key yj with⟨q1,q2⟩ | ⟨x,y,q1,q2,k1,q3,q4,q5⟩
   ·have rh:=u4 q.1 rfl (by rw[←hkq]; exact Qt3 hk q1)
    rw[q2,rh]
    cases c with
    | sl e u=>exact .inl hz
    | mp k v=>cases rh
   ·rw[q2]
    exact q5 (by rw[←(Zf hk).1 q3,hkq]; rfl)
  cases hx:Qmb c (Qe M q.2)with
  | none=>rw[hx]at hq; cases hq
  | some x0 =>
   have u0:=hM _ _ (Qqk hx)
   cases c with
   | sl e u =>
    obtain⟨_,cs,kb,_⟩:=u0
    refine⟨[(Qr key ys).getD z],rfl,⟨_,rfl,hzal⟩,?_⟩
    rcases kb.2 with⟨hv,_⟩ | ⟨g,cap,cur,fz,hv,_⟩<;>exact⟨_,_,_,hv⟩
   | mp k v =>
    rcases hzal with h1 | ⟨h1,_⟩
    ·exact⟨[.map (some (β q.2))],h1,rfl⟩
    ·cases h1
 ·have:Qr key ys=none:=by
   rcases Qkf key yj with⟨_,q2⟩ | ⟨x,y,q1,_⟩
   ·exact q2
   ·rw[hn]at q1; cases q1
  rw[this]
  exact⟨[.map none],hz,rfl⟩
section
variable {P:Program} {Y:TX} {X:Cx} {S:XS} {β β':Nat→Nat} {ρ ρ':Nat→Value} {a a':Act} {w w':World} {n:Nat}
variable {ops:Array Oper} {Q:Exit→Act→World→Prop} {rest:List Oper} {R:Type} {k:XS→Option R} {r:R}
theorem Q58(hX:X.n=n)(hr:X.res=[])(h:Rel X β ρ S.flat a w){o:Oper}(hw:Region.wanted o (yielded ops a.tmps)=true){d:Nat}(hd:o.dst=some d)(zl:okW n S d=true)(hb:okB S d=true){t:TypeId}(kg:o.op=.makeMap t none){kk:Ty}{c:CK}
  (hk:k ((S.born d (.mapC kk c [] none)).put d [] (.m d))=some r) (H:KOk P ops Q rest X S β ρ k r):wpList P ops Q (o::rest) a w:=by
 obtain⟨h1,h2⟩:=Yy zl hX hr
 obtain⟨f1,f2,f3⟩:=Ge hb
 have ka:(execOp a.eval o).run P w=.ok (.value (.map (some w.heap.size))) (w.alloc (.map #[] 0)):=by
  unfold execOp
  rw[kg]
  simp[Instr.makeMap]
 refine Jl hw (Yo ka ?_)
 rw[hd]
 have ha:=Qep d β ρ w.heap.size (.tuple #[])
 have zo:Below w.heap.size w (w.alloc (.map #[] 0)):=(Below.refl _ _).alloc (QD _) _
 refine H (upd β d w.heap.size) (upd ρ d (.tuple #[])) _ _ _ hk (U4 f3 ha _ _ _) ?_
 have hA:Rel X (upd β d w.heap.size) (upd ρ d (.tuple #[])) ⟨Js (Yv d S.env) d++S.fix,(d,.mapC kk c [] none)::(S.mem++S.fixM)⟩ a (w.alloc (.map #[] 0)):=by
  refine Rel.alloc h ha f1 (fun e he=>let⟨q1,q2,_⟩:=C8 f2 h2 e he; ⟨q1,q2⟩) zo (fun g hg=>?_) ?_
  ·have yi:g=upd β d w.heap.size d∨∃v∈Tq (upd ρ d (.tuple #[]) d),Ke v=some g:=hg
   rw[Jd,Jd]at yi
   rcases yi with yi | ⟨v,hv,_⟩
   ·omega
   ·cases hv
  ·refine⟨[],⟨#[],0,?_,rfl,by simp,by simp⟩,?_,by simp,?_,?_,fun _ e=>by cases e⟩
   ·rw[Jd]; exact heap_alloc_new w _
   ·rw[Jd]; trivial
   ·rw[Jd]; exact .nil
   ·rw[Jd]; simp[Tq]
 have hP:=hA.put0 h1 (x:=.m d) (c:=[.map (some (upd β d w.heap.size d))]) rfl
 have hv:(AV.m d).val [.map (some (upd β d w.heap.size d))]=.map (some w.heap.size):=by rw[Jd]; rfl
 rw[hv]at hP
 have he:((S.born d (.mapC kk c [] none)).put d [] (.m d)).flat=⟨⟨d,[],.m d⟩::(Js (Yv d S.env) d++S.fix),(d,.mapC kk c [] none)::(S.mem++S.fixM)⟩:=rfl
 rw[he]
 refine hP.less fun e hm=>?_
 rcases QX.1 hm with rfl | hm
 ·exact .head _
 ·refine .tail _ ?_
  have:Js (Js (Yv d S.env) d++S.fix) d=Js (Yv d S.env) d++S.fix:=by
   rw[K3 h2]
   congr 1
   have idem:∀l:List En,Js (Js l d) d=Js l d:=by
    intro l
    induction l with
    | nil=>rfl
    | cons x l ih =>
     simp only[Js]
     cases hb:(Nat.beq x.t d||Rq d x.cs)with
     | true=>simpa using ih
     | false=>simp only[cond_false,Js,hb,ih]
   exact idem _
  show e∈Js (Js (Yv d S.env) d++S.fix) d
  rw[this]; exact hm
theorem Jgj{β:Nat→Nat}{ρ:Nat→Value}{ok:Ok}{a:Act}{w:World}{S:St}(h:Cb β ρ ok S a w){cur:Va}(hc:Ju a cur){ky:Operand}{kv:AV}(vt:Gx.ev S cur ky=some kv){kk:Ty}{key:kk.De}(yf:asD [] kv kk=some key){d:TypeDesc}{T:Tab}(wh:Yu T kk d=true)(rz:(kk.agg==kv.isAgg)=true):a.eval ky=Yf kk key:=by
 obtain⟨c3,h3,h4⟩:=h.ev hc vt
 refine Ga (ok:=ok) (w:=w) (Jy wh) ⟨c3,Z6 (M:=[]) (β:=β) (ρ:=ρ) (by simp[Qe]) yf h4,?_⟩
 rw[h3]; simp only[AV.val,RT.val,B7,bEq rz]; cases kv.isAgg<;>rfl
theorem Q1c(hT:Q4 P Y.T)(hX:X.n=n)(hr:X.res=[])(h:Rel X β ρ S.flat a w){o:Oper}(hw:Region.wanted o (yielded ops a.tmps)=true)(hs:Qfv Y n o S k=some r)(H:KOk P ops Q rest X S β ρ k r):wpList P ops Q (o::rest) a w:=by
 unfold Qfv at hs
 split at hs
 ·rename_i t m ps d kg hd
  split at hs
  ·rename_i te ku
   split at hs
   ·rename_i e htd0
    split at hs
    ·rename_i ee u vs he hu sc
     split at hs
     ·rename_i xs wt
      obtain⟨hb,hk⟩:=bvT hs
      simp only[QQ]at hb
      obtain⟨⟨⟨⟨⟨⟨zl,ud⟩,ko⟩,hl⟩,td⟩,zq⟩,xi⟩:=hb
      have kr:=Yw htd0
      obtain⟨f1,f2,f3⟩:=Ge ud
      obtain⟨h1,h2⟩:=Yy zl hX hr
      have hg:=L9 h hw
      obtain⟨us,q1,q2,q3,q4⟩:=Qxi h sc wt
      have xe:=QJ ko
      have xn:=QJ hl
      have xl:∀v∈us,(Qu v).length=ee.size:=fun v hv=>by rw[Qkc q2 v hv,Ji,xe]
      have yb:(U0 (Qu ee.z) ((m+1)*ee.size)).length=(m+1)*ee.size:=by simp[U0]
      have z7:=Q0n us 0 (U0 (Qu ee.z) ((m+1)*ee.size)) xl (by rw[yb,QE,q3,xn]; exact QD _)
      rw[←q1]at z7
      have vd:N0 (Qch ee.size) (U0 (Qu ee.z) ((m+1)*ee.size)) (ps.map (fun p=>(p.1,a.eval p.2)))=some (us.flatMap Qu):=by
       rw[z7]
       simp only[XB,ZA,QC,QE]
       rw[XN (by rw[yb,q3,xn]; exact QD _),QR]
      rw[Cd o,hd,kg]at hg ⊢
      refine Q07 hT h.toG (r:=rt u) hg h1 q4 ku kr he (by rw[Ji]; exact xe) xn td zq (ZB (JB _)) xi vd q2 fun b a' w' hS=>?_
      refine H β (upd ρ d (.slice (some ⟨b,0,none⟩) xs.length (m+1))) _ _ _ hk (U4 f3 (J0 d β ρ _) _ _ _) ?_
      have:=Zy (o:=.row e u xs) hX hr h.sz zl f1 f2 f3 hS (by simp only[Qx,Jd]; exact Wa.refl _) ⟨_,_,_,rfl⟩
      exact this
     ·cases hs
    ·cases hs
   ·cases hs
  ·cases hs
 ·
  rename_i t rs d kg hd
  split at hs
  ·rename_i te ku
   split at hs
   ·rename_i kt et kr
    split at hs
    ·rename_i kk c i7 hc
     obtain⟨hb,hk⟩:=bvT hs
     simp only[QQ]at hb
     have ao:=Qer hb.2
     subst ao
     exact Q58 hX hr h hw hd hb.1.1 hb.1.2 kg hk H
    ·cases hs
   ·cases hs
  ·cases hs
 ·
  rename_i t m ky x kg hd
  split at hs
  ·rename_i te id kv xv ku hm vt hx
   split at hs
   ·rename_i kt et kk c xs hole kr xt
    split at hs
    ·rename_i tk key yu yf
     obtain⟨hb,hs⟩:=bvT hs
     simp only[QQ]at hb
     exact Jpe hT h hw kg hd ku kr yu hm vt hx xt yf hb.1 hb.2 hs H
    ·cases hs
   ·cases hs
  ·cases hs
 ·
  rename_i t m ky d kg hd
  split at hs
  ·rename_i te id kv ku hm vt
   split at hs
   ·rename_i kt et kk v xs kr xt
    split at hs
    ·rename_i tk tz key yu mj yf
     split at hs
     ·rename_i za qx
      split at hs
      ·rename_i z hz
       obtain⟨hb,hk⟩:=bvT hs
       simp only[QQ]at hb
       exact Q56 hT hX hr h hw kg hd ku kr yu mj hm vt xt yf qx hz hb.1.1.1.1 hb.1.1.1.2 hb.1.1.2 hb.1.2 hb.2 hk H
      ·cases hs
     ·cases hs
    ·cases hs
   ·cases hs
  ·cases hs
 ·
  rename_i t m st x kg hd
  split at hs
  ·rename_i id j xv hm zg hx
   split at hs
   ·rename_i kk v xs key j' xt
    split at hs
    ·rename_i te ku
     split at hs
     ·rename_i kt et kr
      split at hs
      ·rename_i tk y yu hy
       obtain⟨hb,hk⟩:=bvT hs
       simp only[QQ]at hb
       have hj:=QJ hb.1.1
       subst hj
       exact Qxm hT h hw kg hd yu hm zg hx xt hy hb.1.2 hb.2 hk H
      ·cases hs
     ·cases hs
    ·cases hs
   ·cases hs
  ·cases hs
 ·
  rename_i t m ky d kg hd
  split at hs
  ·rename_i te kv ku vt
   split at hs
   ·rename_i kt et kr
    split at hs
    ·rename_i tk tz id yu mj hm
     split at hs
     ·rename_i kk c xs hole xt
      split at hs
      ·rename_i key yf
       replace hs:=bvT hs
       obtain⟨hb,hs⟩:=hs
       simp only[QQ]at hb
       obtain⟨⟨⟨zl,wh⟩,rz⟩,hz⟩:=hb
       have gen:∀av,((∃q,hole=some q∧Ea (Qmb c (Qe S.flat.mem q.2))=true∧eqK kk key q.1=true∧av=avC c q.2)∨(hole=none∧(∃k v,c=.mp k v)∧Qr key xs=none∧av=.nm))→k (S.put d [] av)=some r→wpList P ops Q (o::rest) a w:=by
        intro av iq hk
        refine Jf4 hX hr h hw hd zl (x:=av) (fun {β ρ ok a w} h hc=>?_) hk H
        obtain⟨c1,h1,h2⟩:=h.ev hc hm
        have zj:c1=[.map (some (β id))]:=h2
        subst zj
        have k5:a.eval m=.map (some (β id)):=h1
        have pg:=Jgj h hc vt yf wh rz
        obtain⟨ys,⟨es,clock,hg,hp,_⟩,yj,_,_,_,u4⟩:=h.mm _ _ xt
        obtain⟨v,ka,hv,_⟩:=Qpx hT ku kr yu mj wh hg hp key (z:=tz.z) ⟨[tz.z],⟨rfl,by rw[Quo hz]; exact Jgh⟩,rfl⟩ false
        obtain⟨cs0,⟨e0,_⟩,hv⟩:=hv
        have hv:v=(Qr key ys).getD tz.z:=by rw[hv,e0]; rfl
        obtain⟨cs,q1,q2⟩:=Jgi (R:=R) h.mm (Jy wh) yj u4 hz iq
        refine⟨cs,?_,q2⟩
        unfold execOp
        rw[kg]
        simp only[k5,pg]
        simp only[XQ,if_false]at ka
        simp[ka,hv,q1]
       unfold Q5w at hs
       split at hs
       ·rename_i q
        replace hs:=bvT hs
        obtain⟨hq,hs⟩:=hs
        obtain⟨_,qe,hk⟩:=Yk hs
        unfold chk at qe
        exact gen _ (.inl ⟨q,rfl,hq,(bvT qe).1,rfl⟩) hk
       ·rename_i k2 v2 xs
        obtain⟨_,qe,hk⟩:=Yk hs
        unfold chk at qe
        exact gen _ (.inr ⟨rfl,⟨_,_,rfl⟩,Qer (bvT qe).1,rfl⟩) hk
       ·cases hs
      ·cases hs
     ·exact Qum hT hX hr h hw hs H
    ·rename_i tk tz yu mj hm
     split at hs
     ·rename_i kk v i7 hvv
      split at hs
      ·rename_i key za yf qx
       split at hs
       ·rename_i z hz
        obtain⟨hb,hk⟩:=bvT hs
        simp only[QQ]at hb
        obtain⟨⟨⟨zl,wh⟩,rz⟩,iy⟩:=hb
        refine Jf4 hX hr h hw hd zl (x:=.d v z) (fun {β ρ ok a w} h hc=>?_) hk H
        obtain⟨c1,h1,h2⟩:=h.ev hc hm
        have zj:c1=[.map none]:=h2
        subst zj
        have k5:a.eval m=.map none:=h1
        have pg:=Jgj h hc vt yf wh rz
        have ka:=Qs2 (w:=w) hT ku kr yu mj wh key false
        refine⟨Qu tz.z,?_,Z6 (M:=[]) (β:=β) (ρ:=ρ) (by simp[Qe]) hz (Ca qx)⟩
        have hvz:(AV.d v z).val (Qu tz.z)=tz.z:=by
         have:=Qkb (bEq iy)
         simp only[AV.val,AV.isAgg]
         simp only[RT.val,B7]at this
         cases ux:v.agg<;>rw[ux]at this<;>exact this
        unfold execOp
        rw[kg]
        simp only[k5,pg,hvz]
        simp only[XQ,if_false]at ka
        simp[ka]
       ·cases hs
      ·cases hs
     ·cases hs
    ·cases hs
   ·cases hs
  ·cases hs
 ·cases hs
end
end Gx
