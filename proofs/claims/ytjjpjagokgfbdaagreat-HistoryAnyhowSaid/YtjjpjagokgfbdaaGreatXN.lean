/- A region, operation by operation. -/
import Derived.Test.YtjjpjagokgfbdaaGreatXM
namespace Gx
open Go Go.RowKit Gd
set_option linter.unusedVariables false
set_option linter.unusedSimpArgs false
section
variable {P:Program} {Y:TX} {X:Cx} {S:XS} {β β':Nat→Nat} {ρ ρ':Nat→Value} {a a':Act} {w w':World} {n:Nat}
variable {ops:Array Oper} {Q:Exit→Act→World→Prop} {rest:List Oper} {R:Type} {k:XS→Option R} {r:R}
theorem Qug(hT:Q4 P Y.T)(hX:X.n=n)(hr:X.res=[])(h:Rel X β ρ S.flat a w){o:Oper}(hw:Region.wanted o (yielded ops a.tmps)=true)(hs:Qgl Y n o S k=some r)(H:KOk P ops Q rest X S β ρ k r) :
  wpList P ops Q (o::rest) a w:=by
 unfold Qgl at hs
 split at hs
 ·
  rename_i t d hop hd
  split at hs
  ·rename_i e ty he hty
   split at hs
   ·rename_i c hc
    obtain⟨hb,hk⟩:=bvT hs
    simp only[QQ]at hb
    refine Jmc (cs:=Qu e.z) hX hr h hw hd hb.1.1.1 hb.1.1.2 ?_ (B9 hc) hb.2 hk H
    unfold execOp
    simp only[hop]
    simp[Instr.alloc,Va hT w he,newVar,newRow,Vn]
   ·cases hs
  ·cases hs
 ·
  rename_i t x d hop hd
  split at hs
  ·rename_i c hc
   obtain⟨hb,hk⟩:=bvT hs
   simp only[QQ]at hb
   obtain⟨cs,h1,h2⟩:=h.ev (Qc a) hc
   refine Jmc (cs:=cs) hX hr h hw hd hb.1.1.1.1 hb.1.1.1.2 ?_ h2 hb.2 hk H
   have hcl:=N2 h2 hb.1.1.2 hb.1.2
   have hcc:(c.val cs).cells=cs.toArray:=by
    apply Array.ext'
    rw[←Vn,hcl]
   unfold execOp
   simp only[hop,h1]
   simp[Instr.box,newVar,newRow,hcc]
  ·cases hs
 ·
  rename_i t p x hop hd
  split at hs
  ·rename_i e id path v he hp hx
   split at hs
   ·rename_i tid c hm
    split at hs
    ·rename_i c' hc'
     obtain⟨hb,hk⟩:=bvT hs
     simp only[QQ]at hb
     exact Q8d hT h hw hop hd he hp hx hm (fun _ h1 h2=>Tu h1 hc' h2) hb.1.1 hb.1.2 hb.2 hk H
    ·cases hs
   ·cases hs
  ·rename_i e id j sz ps v he hp hx
   split at hs
   ·rename_i et u xs hm
    obtain⟨y,hy,hs⟩:=Yi hs
    split at hs
    ·rename_i c hc
     split at hs
     ·rename_i z0 hz
      obtain⟨hb,hk⟩:=bvT hs
      simp only[QQ]at hb
      exact Jbh hT h hw hop hd he hp hx hm hy hc hz hb.1.1.1.1 hb.1.1.1.2 hb.1.1.2 hb.1.2 hb.2 hk H
     ·cases hs
    ·cases hs
   ·cases hs
  ·cases hs
 ·
  rename_i t rs d hop hd
  split at hs
  ·rename_i te hte
   split at hs
   ·rename_i kt et htd
    split at hs
    ·rename_i kk v hkk hv
     obtain⟨hb,hk⟩:=bvT hs
     simp only[QQ]at hb
     have hrs:rs=none:=by
      cases rs with
      | none=>rfl
      | some x=>simp[isNone]at hb
     subst hrs
     exact Jbg hX hr h hw hd hb.1.1 hb.1.2 hop hk H
    ·cases hs
   ·cases hs
  ·cases hs
 ·
  rename_i t m ky x hop hd
  split at hs
  ·rename_i te id kv xv hte hm hkv hx
   split at hs
   ·rename_i kt et kk v xs htd hmo
    split at hs
    ·rename_i tk key y htk hkey hy
     obtain⟨hb,hk⟩:=bvT hs
     simp only[QQ]at hb
     exact Q0q hT h hw hop hd hte htd htk hm hkv hx hmo hkey hy hb.1.1 hb.1.2 hb.2 hk H
    ·cases hs
   ·cases hs
  ·cases hs
 ·
  rename_i t l c d hop hd
  split at hs
  ·rename_i te lv cv hte hl hc
   split at hs
   ·rename_i e k1 nl k2 nc hse hli hci
    split at hs
    ·rename_i ee u he hu
     split at hs
     ·rename_i za hza
      split at hs
      ·rename_i z0 hz
       obtain⟨hb,hs⟩:=bvT hs
       simp only[QQ]at hb
       obtain⟨zs,hzs,hk⟩:=Yi hs
       exact Jpb hT hX hr h hw hd hb.1.1.1.1 hb.1.1.1.2 hop hte (Yv hse) he hl hc hli hci hza hz hb.1.1.2 hb.1.2 hb.2 hzs hk H
      ·cases hs
     ·cases hs
    ·cases hs
   ·cases hs
  ·cases hs
 ·
  rename_i t len parts d hop hd
  split at hs
  ·rename_i te hte
   split at hs
   ·rename_i e hse
    split at hs
    ·rename_i ee u he hu
     obtain⟨hb,hs⟩:=bvT hs
     simp only[QQ]at hb
     split at hs
     ·obtain⟨hb2,hk⟩:=bvT hs
      exact Jpc hT hX hr h hw hd hb.1 hb2 hop hte (Yv hse) he hb.2 hk H
     ·cases hs
     ·rename_i m
      split at hs
      ·rename_i vs hvs
       split at hs
       ·rename_i xs hxs
        obtain⟨hb2,hk⟩:=bvT hs
        simp only[QQ]at hb2
        exact Jqt hT hX hr h hw hd hb.1 hop hte (Yv hse) he hb.2 hvs hxs hb2.1.1.1 hb2.1.1.2 hb2.1.2 hb2.2 hk H
       ·cases hs
      ·cases hs
    ·cases hs
   ·cases hs
  ·cases hs
 ·
  rename_i s x t t' d hop hd
  split at hs
  ·rename_i te sv xv hte hsv hxv
   split at hs
   ·rename_i e hse
    split at hs
    ·rename_i ee he
     have hb:=(bvT hs).1
     replace hs:=(bvT hs).2
     simp only[QQ]at hb
     obtain⟨⟨⟨⟨b1,b2⟩,b3⟩,b4⟩,b5⟩:=hb
     have ett:=QJ b2
     subst ett
     split at hs
     ·split at hs
      ·rename_i u hu
       split at hs
       ·rename_i ys hys
        have hb2:=(bvT hs).1
        replace hs:=(bvT hs).2
        simp only[QQ]at hb2
        obtain⟨zs,hzs,hk⟩:=Yi hs
        exact Jf2 hT hX hr h hw hd b1 hb2.1 hop hte (Yv hse) he hb2.2 b3 b4 b5 hsv hxv hys hzs hk H
       ·cases hs
      ·cases hs
     ·split at hs
      ·rename_i u hu
       split at hs
       ·rename_i ys hys
        have hb2:=(bvT hs).1
        replace hs:=(bvT hs).2
        simp only[QQ]at hb2
        obtain⟨zs,hzs,hk⟩:=Yi hs
        exact Jpd hT hX hr h hw hd b1 hb2.1 hop hte (Yv hse) he hb2.2 b3 b4 b5 hsv hxv hys hzs hk H
       ·cases hs
      ·cases hs
     ·rename_i id
      split at hs
      ·rename_i e' u xs hm
       split at hs
       ·rename_i ys hys
        have hb2:=(bvT hs).1
        replace hs:=(bvT hs).2
        simp only[QQ]at hb2
        have ee':=QJ hb2.2
        subst ee'
        obtain⟨zs,hzs,hk⟩:=Yi hs
        exact Jf3 hT hX hr h hw hd b1 hb2.1.1 hop hte (Yv hse) he hb2.1.2 b3 b4 b5 hsv hxv hm hys hzs hk H
       ·cases hs
      ·rename_i e' u xs hm
       split at hs
       ·rename_i ys hys
        have hb2:=(bvT hs).1
        replace hs:=(bvT hs).2
        simp only[QQ]at hb2
        have ee':=QJ hb2.2
        subst ee'
        obtain⟨zs,hzs,hk⟩:=Yi hs
        exact Jbi hT hX hr h hw hd b1 hb2.1.1 hop hte (Yv hse) he hb2.1.2 b3 b4 b5 hsv hxv hm hys hzs hk H
       ·cases hs
      ·cases hs
     ·cases hs
    ·cases hs
   ·cases hs
  ·cases hs
 ·
  obtain⟨hb,hs⟩:=bvT hs
  obtain⟨av,hk,hsem⟩:=Q0h (P:=P) hT rfl hs
  exact Jfy hX hr h hw (by assumption) hb hsem hk H
 ·cases hs
theorem Jf7(hT:Q4 P Y.T)(hX:X.n=n)(hr:X.res=[])(h:Rel X β ρ S.flat a w){o:Oper}(hw:Region.wanted o (yielded ops a.tmps)=true)(hs:Qt4 Y n o S k=some r)(H:KOk P ops Q rest X S β ρ k r) :
  wpList P ops Q (o::rest) a w:=by
 unfold Qt4 at hs
 split at hs
 ·
  rename_i s x t t' d hop hd
  split at hs
  ·rename_i te te' sv l hte hte' hsv hxv
   split at hs
   ·rename_i e hse
    split at hs
    ·rename_i ee he
     obtain⟨hb,hs⟩:=bvT hs
     simp only[QQ]at hb
     obtain⟨⟨⟨⟨b1,b2⟩,b3⟩,b4⟩,b5⟩:=hb
     have b2:=Jbj b2
     have b3:=Jkt b3
     have b4:=QJ b4
     have b5:=QJ b5
     split at hs
     ·obtain⟨hb2,hs⟩:=bvT hs
      obtain⟨zs,hzs,hk⟩:=Yi hs
      exact Jbl hT hX hr h hw hd b1 hb2 hop hte (Yv hse) hte' b2 he b3 b4 b5 hsv hxv hzs hk H
     ·rename_i id
      split at hs
      ·rename_i e' xs hm
       obtain⟨hb2,hs2⟩:=bvT hs
       simp only[QQ]at hb2
       have ee':=QJ hb2.2
       subst ee'
       obtain⟨zs,hzs,hk⟩:=Yi hs2
       exact Jbk hT hX hr h hw hd b1 hb2.1 hop hte (Yv hse) hte' b2 he b3 b4 b5 hsv hxv hm hzs hk H
      ·cases hs
     ·cases hs
    ·cases hs
   ·cases hs
  ·cases hs
 ·
  rename_i s t x d hop hd
  split at hs
  ·rename_i se te l hse hte hx
   split at hs
   ·rename_i e hsd
    split at hs
    ·rename_i ee he
     obtain⟨hb,hs⟩:=bvT hs
     simp only[QQ]at hb
     obtain⟨zs,hzs,hk⟩:=Yi hs
     exact Q5w hT hX hr h hw hd hb.1.1 hb.1.2 hop hse hte (Yv hsd) he (Jku hb.2) hx hzs hk H
    ·cases hs
   ·cases hs
  ·cases hs
 ·
  rename_i t p x hop hd
  split at hs
  ·rename_i e id path v he hp hx
   split at hs
   ·rename_i tid c hm
    obtain⟨c',hc',hset⟩:=Qwz hs
    obtain⟨hb,hk⟩:=bvT hc'
    simp only[QQ]at hb
    exact Q8d hT h hw hop hd he hp hx hm (fun hM h1 h2=>hset hM h1 h2) hb.1.1 hb.1.2 hb.2 hk H
   ·cases hs
  ·cases hs
 ·
  rename_i dst src t t' d hop hd
  split at hs
  ·rename_i te id xv hte hdv hsv
   split at hs
   ·rename_i e hse
    split at hs
    ·rename_i ee et u xs he hm
     split at hs
     ·rename_i ys hys
      obtain⟨hb,hk⟩:=bvT hs
      simp only[QQ]at hb
      exact Jpe hT hX hr h hw hd hb.1.1 hop hte (Yv hse) he hdv hsv hm hys hb.1.2 hb.2 hk H
     ·cases hs
    ·cases hs
   ·cases hs
  ·cases hs
 ·
  rename_i m ky t t' hop hd
  split at hs
  ·rename_i te id kv hte hm hkv
   split at hs
   ·rename_i kt et kk v xs htd hmo
    split at hs
    ·rename_i tk key htk hkey
     obtain⟨hb,hk⟩:=bvT hs
     simp only[QQ]at hb
     exact Jf4 hT h hw hop hd hte htd htk hm hkv hmo hkey hb.1 hb.2 hk H
    ·cases hs
   ·cases hs
  ·cases hs
 ·
  rename_i t m ps d hop hd
  split at hs
  ·rename_i te hte
   split at hs
   ·rename_i e hse
    split at hs
    ·rename_i ee vs he hvs
     split at hs
     ·rename_i c hpl
      obtain⟨hb,hk⟩:=bvT hs
      simp only[QQ]at hb
      obtain⟨⟨⟨⟨⟨⟨b1,b2⟩,b3⟩,b4⟩,b5⟩,b6⟩,b7⟩:=hb
      exact Jf6 hT hX hr h hw hd b1 b2 hop hte (Yv hse) he hvs hpl b3 b4 b5 b6 b7 hk H
     ·cases hs
    ·cases hs
   ·cases hs
  ·cases hs
 ·
  rename_i t x hi d hop hd
  split at hs
  ·rename_i te id hte hx
   split at hs
   ·rename_i e e' u xs hse hm
    split at hs
    ·rename_i ee q he hq
     obtain⟨hb,hs2⟩:=bvT hs
     simp only[QQ]at hb
     have ee':=QJ hb.2
     subst ee'
     obtain⟨ys,hys,hk⟩:=Yi hs2
     exact Jf5 hT hX hr h hw hd hb.1.1.1 hb.1.1.2 hop hte (Yv hse) he hb.1.2 hx hm hq hys (.inl rfl) hk H
    ·cases hs
   ·cases hs
  ·cases hs
 ·
  rename_i t x hi mx d hop hd
  split at hs
  ·rename_i te id hv mv hte hx hhi hmx
   split at hs
   ·rename_i e e' u xs k1 q k2 m hse hm hib him
    split at hs
    ·rename_i ee he
     obtain⟨hb,hs2⟩:=bvT hs
     simp only[QQ]at hb
     have ee':=QJ hb.2
     subst ee'
     obtain⟨_,hck,hs3⟩:=Yi hs2
     obtain⟨hck,_⟩:=bvT hck
     simp only[QQ,decide_eq_true_eq]at hck
     obtain⟨ys,hys,hk⟩:=Yi hs3
     have hq:bnd S.flat [] xs.length (some hi)=some q:=by
      have hhi':ev S.flat [] hi=some hv:=hhi
      simp only[bnd,hhi',hib]
     exact Jf5 hT hX hr h hw hd hb.1.1.1 hb.1.1.2 hop hte (Yv hse) he hb.1.2 hx hm hq hys (.inr ⟨hi,mx,k1,k2,m,rfl,rfl,h.toW.int (Qc a) hhi hib,h.toW.int (Qc a) hmx him,hck.1,hck.2⟩) hk H
    ·cases hs
   ·cases hs
  ·cases hs
 ·cases hs
theorem Qqk(hT:Q4 P Y.T)(hX:X.n=n)(hr:X.res=[])(h:Rel X β ρ S.flat a w){o:Oper}(hw:Region.wanted o (yielded ops a.tmps)=true)(hs:Ql5 Y n o S k=some r)(H:KOk P ops Q rest X S β ρ k r) :
  wpList P ops Q (o::rest) a w:=by
 unfold Ql5 at hs
 split at hs
 ·exact Qug hT hX hr h hw hs H
 ·exact Jf7 hT hX hr h hw hs H
theorem K3{o:Oper}(hg:o.guard=none)(y:Nat→Option Bool):Region.wanted o y=true:=by unfold Region.wanted; rw[hg]
theorem Vu{l:List Oper}{o:Oper}{t:Nat}{b:Bool}(hg:Qgj l o=some (some (t,b))):Region.wanted o (yielded ⟨l⟩ a.tmps)=true↔a.tmps[t]?=some (.bool b):=by
 unfold Qgj at hg
 split at hg
 ·cases hg
 ·rename_i j want hgd
  split at hg
  ·rename_i p hp
   split at hg
   ·rename_i t' ht
    simp at hg
    obtain⟨rfl,rfl⟩:=hg
    have hp':(Array.mk l)[j]?=some p:=by simpa using hp
    unfold Region.wanted
    rw[hgd]
    simp only[yielded,hp',QI,ht,beq_iff_eq]
    split
    ·rename_i b' hb'
     rw[hb']
     constructor
     ·intro e; injection e with e; subst e; rfl
     ·intro e; injection e with e; injection e with e; subst e; rfl
    ·rename_i hn
     constructor
     ·intro e; cases e
     ·intro e; exact absurd e (hn want)
   ·cases hg
  ·cases hg
theorem Lp{l:List Oper}{o:Oper}(hg:Qgj l o=some none):o.guard=none:=by
 unfold Qgj at hg
 split at hg
 ·assumption
 ·split at hg
  ·split at hg<;>cases hg
  ·cases hg
theorem Ql9{o:Oper}(hw:Region.wanted o (yielded ops a.tmps)=false)(h:wpList P ops Q rest (a.put o.dst undef) w):wpList P ops Q (o::rest) a w:=by
 unfold wpList
 rw[if_neg (by rw[hw]; simp)]
 exact h
theorem Q0z(hX:X.n=n)(hr:X.res=[])(h:Rel X β ρ S.flat a w){o:Oper}(hw:Region.wanted o (yielded ops a.tmps)=false)(hs:Qco n o S k=some r)(H:KOk P ops Q rest X S β ρ k r) :
  wpList P ops Q (o::rest) a w:=by
 refine Ql9 hw ?_
 unfold Qco at hs
 split at hs
 ·rename_i d hd
  obtain⟨hb,hk⟩:=bvT hs
  obtain⟨h1,h2⟩:=Yx hb hX hr
  rw[hd]
  refine H β ρ _ _ _ hk (Gy S d [] _) ?_
  rw[Xp h2]
  exact h.put0 h1 (x:=.tp .nil) (c:=[.tuple #[]]) ⟨[],rfl,rfl⟩
 ·rename_i hd
  rw[hd]
  exact H β ρ _ _ _ hs (Y4.refl _ _ _) h
theorem Jf8(hT:Q4 P Y.T)(hX:X.n=n)(hr:X.res=[])(h:Rel X β ρ S.flat a w){l:List Oper}{o:Oper}{t:Nat}{want:Bool}(hg:Qgj l o=some (some (t,want)))(hs:Qic Y n t want o S k=some r)(H:KOk P ⟨l⟩ Q rest X S β ρ k r) :
  wpList P ⟨l⟩ Q (o::rest) a w:=by
 unfold Qic at hs
 split at hs
 ·rename_i t' cs b d he hd
  obtain⟨hb,hs⟩:=bvT hs
  simp only[QQ]at hb
  obtain⟨h1,h2⟩:=Yx hb.1.1 hX hr
  have htd:=neB hb.1.2
  have hud:∀c∈cs,c.1≠d:=Qcj (by simpa using hb.2)
  split at hs
  ·rename_i v hv
   obtain⟨hm,ht'⟩:=U1 he
   simp only at ht'
   subst ht'
   have hkeep:∀u:Value,Jt (a.put (some d) u) ((t',want)::cs)↔Jt a ((t',want)::cs):=by
    intro u
    have hne:∀c∈(t',want)::cs,c.1≠d:=by
     intro c hc
     rcases QX.1 hc with rfl | hc
     ·exact htd
     ·exact hud c hc
    exact⟨fun hc c hm=>by rw[←Y5 (hne c hm) u]; exact hc c hm,fun hc c hm=>by rw[Y5 (hne c hm) u]; exact hc c hm⟩
   by_cases hw:Region.wanted o (yielded ⟨l⟩ a.tmps)=true
   ·have htb:=(Vu hg).1 hw
    have hcs:Jt a cs:=by
     rcases(h.en hm).2 with h3 | h3
     ·exact h3
     ·simp only at h3; rw[Lx (Qci he),htb]at h3; simp[undef]at h3
    have hcur:Jt a ((t',want)::cs):=by
     intro c hc
     rcases QX.1 hc with rfl | hc
     ·exact htb
     ·exact hcs c hc
    obtain⟨c,h3,h4⟩:=Qh9 hT h.toW hcur hv
    refine Jk hw (Yn h3 ?_)
    rw[hd]
    refine H β ρ _ _ _ hs (Gy S d _ _) ?_
    rw[Xp h2]
    exact h.put h1 (fun _=>⟨c,rfl,h4⟩) (.inl ((hkeep _).2 hcur))
   ·have hw':Region.wanted o (yielded ⟨l⟩ a.tmps)=false:=by simpa using hw
    refine Ql9 hw' ?_
    rw[hd]
    refine H β ρ _ _ _ hs (Gy S d _ _) ?_
    rw[Xp h2]
    refine h.put h1 (fun hc=>?_) (.inr rfl)
    have:=(hkeep _).1 hc
    exact absurd ((Vu hg).2 (this _ (.head _))) hw
  ·cases hs
 ·cases hs
theorem Jf9(hT:Q4 P Y.T)(hX:X.n=n)(hr:X.res=[]){l:List Oper}(h:Rel X β ρ S.flat a w){o:Oper}(hs:Qid Y n l o S k=some r)(H:KOk P ⟨l⟩ Q rest X S β ρ k r):wpList P ⟨l⟩ Q (o::rest) a w:=by
 unfold Qid at hs
 split at hs
 ·rename_i hg
  exact Qqk hT hX hr h (K3 (Lp hg) _) hs H
 ·rename_i t want hg
  exact Jf8 hT hX hr h hg hs H
 ·cases hs
theorem Jga(hT:Q4 P Y.T)(hX:X.n=n)(hr:X.res=[]){l:List Oper}(h:Rel X β ρ S.flat a w){o:Oper}(hs:Gx.stepL Y n l o S k=some r)(H:KOk P ⟨l⟩ Q rest X S β ρ k r):wpList P ⟨l⟩ Q (o::rest) a w:=by
 unfold Gx.stepL at hs
 split at hs
 ·rename_i hg
  exact Qqk hT hX hr h (K3 (Lp hg) _) hs H
 ·rename_i t want hg
  split at hs
  ·rename_i t' b he
   obtain⟨cs,h1,h2⟩:=h.get he (Qc a)
   have h2':cs=_:=h2
   subst h2'
   have h1':a.tmps[t]?=some (.bool b):=h1
   split at hs
   ·rename_i hb
    have:b=want:=by simpa using hb
    subst this
    exact Qqk hT hX hr h ((Vu hg).2 h1') hs H
   ·rename_i hb
    refine Q0z hX hr h ?_ hs H
    have hne:b≠want:=by simpa using hb
    cases hw:Region.wanted o (yielded ⟨l⟩ a.tmps)with
    | false=>rfl
    | true =>
     have:=(Vu hg).1 hw
     rw[h1']at this
     injection this with this
     injection this with this
     exact absurd this hne
  ·rename_i t' he
   obtain⟨cs,h1,vs,h2,h3⟩:=h.get he (Qc a)
   subst h2
   refine Q0z hX hr h ?_ hs H
   cases hw:Region.wanted o (yielded ⟨l⟩ a.tmps)with
   | false=>rfl
   | true =>
    have:=(Vu hg).1 hw
    rw[h1]at this
    injection this with this
    cases this
  ·cases hs
 ·cases hs
theorem Qxd{l:List Oper}(st:Oper→XS→(XS→Option R)→Option R)
  (hst:∀{o:Oper} {rest:List Oper} {S:XS} {β:Nat→Nat} {ρ:Nat→Value} {a:Act} {w:World} {k:XS→Option R},Rel X β ρ S.flat a w→st o S k=some r→KOk P ⟨l⟩ Q rest X S β ρ k r→wpList P ⟨l⟩ Q (o::rest) a w) :
  ∀{l1 rest:List Oper} {S:XS} {β:Nat→Nat} {ρ:Nat→Value} {a:Act} {w:World} {k:XS→Option R},Rel X β ρ S.flat a w→Qna st l1 S k=some r→KOk P ⟨l⟩ Q rest X S β ρ k r→wpList P ⟨l⟩ Q (l1++rest) a w
 | [],rest,S,β,ρ,a,w,k,h,hs,H=>H β ρ S a w hs (Y4.refl _ _ _) h
 | o::l1,rest,S,β,ρ,a,w,k,h,hs,H=>by
  simp only[Qna]at hs
  refine hst (rest:=l1++rest) h hs fun β' ρ' S' a' w' hk hkeep h'=>?_
  exact Qxd st hst h' hk (H.after hkeep)
end
end Gx

/- A map's entry that is made first and written then. -/
namespace Gx
open Go Go.RowKit Gd
set_option linter.unusedVariables false
set_option linter.unusedSimpArgs false
section
variable {P:Program} {T:Tab}
theorem Jbo{es:Array MapEntry}(hst:(es.toList.map MapEntry.born).Nodup){j:Nat}{e:MapEntry}(hj:es.toList[j]?=some e):es.findIdx? (fun x=>(x.born:Int)==(e.born:Int))=some j:=by
 obtain⟨hl,hj⟩:=QK.1 hj
 have hl':j<es.size:=by simpa using hl
 rw[Array.findIdx?_eq_some_iff_getElem]
 refine⟨hl',by simp only[WJ]at hj; simp[hj],fun i hi=>?_⟩
 have hij:i≠j:=WY hi
 have h1:i<(es.toList.map MapEntry.born).length:=by simp; omega
 have h2:j<(es.toList.map MapEntry.born).length:=by simpa using hl
 have hne:(es.toList.map MapEntry.born)[i]≠(es.toList.map MapEntry.born)[j]:=fun h=>hij ((List.getElem_inj hst).1 h)
 simp only[KF,WJ]at hne hj
 rw[hj]at hne
 simpa using fun h:((es[i]'(by omega)).born:Int)=(e.born:Int)=>hne (by exact_mod_cast h)
theorem Qma{es:Array MapEntry}{j:Nat}{f:MapEntry→MapEntry}(hf:∀e,(f e).born=e.born):((es.modify j f).toList.map MapEntry.born)=es.toList.map MapEntry.born:=by
 apply ZU
 intro i
 simp only[VU,ZM,ZQ]
 split
 ·cases es[i]?<;>simp[hf]
 ·rfl
theorem Quh{es:Array MapEntry}{clock:Nat}(hst:Fw es clock){j:Nat}{f:MapEntry→MapEntry}(hf:∀e,(f e).born=e.born):Fw (es.modify j f) clock:=by
 refine⟨by rw[Qma hf]; exact hst.1,fun e he=>?_⟩
 have hb:e.born∈(es.modify j f).toList.map MapEntry.born:=QY.2 ⟨e,he,rfl⟩
 rw[Qma hf]at hb
 obtain⟨e',he',hbe⟩:=QY.1 hb
 rw[←hbe]; exact hst.2 e' he'
theorem Qki{k:Ty}(hk:Tq k=true){ν:Type}{s:RT ν}{ok:Ok}{w:World}:∀{xs:List (k.De×ν)} {es:List MapEntry},Xn (rt k) s ok w xs es→es.map MapEntry.key=xs.map fun q=>Ye k q.1
 | [],es,h=>by cases(show es=[]from h); rfl
 | x::xs,es,h=>by
  obtain⟨e,es',rfl,h1,_,h3⟩:=h
  simp[W7 hk h1,Qki hk h3]
theorem Q00(hT:Q4 P T){kt:TypeId}{te:TE}(ht:Qh T kt=some te){k:Ty}(hd:Yt T k te.d=true){x y:k.De}(w:World)(h:Ye k x=Ye k y):x=y:=by
 have h1:=Lz hT ht hd x y w
 have h2:=Lz hT ht hd x x w
 rw[←h]at h1
 rw[h1]at h2
 injection h2 with h2
 exact(Zd (Jx hd)).1 (h2.trans ((Zd (Jx hd)).2 rfl))
theorem Qxe(hT:Q4 P T){t kt et:TypeId}{te tk tz:TE}(ht:Qh T t=some te)(htd:te.d=.map kt et)(hk:Qh T kt=some tk)(hz:Qh T et=some tz)
  {k:Ty} {ν:Type} {s:RT ν} (hd:Yt T k tk.d=true) {ok:Ok} {w:World} {g:Nat} {es:Array MapEntry} {clock:Nat} (hg:w.heap[g]?=some (.map es clock)) {xs:List (k.De×ν)} (hp:Xn (rt k) s ok w xs es.toList) (hst:Fw es clock)
  (key:k.De) {z:ν} (hzv:isV s ok w z tz.z) :
  ∃es1 clock1 u b,(Instr.mapEntry t (.map (some g)) (Ye k key)).run P w=.ok (.tuple #[u,.int .i64 ((b:Nat):Int)]) { w with heap:=w.heap.setIfInBounds g (.map es1 clock1) } ∧
   Xn (rt k) s ok w (J9 key ((Qr key xs).getD z) xs) es1.toList∧Fw es1 clock1∧(∃e∈es1.toList,e.key=Ye k key∧e.born=b)∧isV s ok w ((Qr key xs).getD z) u:=by
 have hu:=(Jl hT ht).2
 rw[htd]at hu
 have hzr:(zeroValue et).run P w=.ok tz.z w:=Va hT w hz
 rcases Ro hT hk hd key w hp with⟨r1,r2⟩ | ⟨j,e,y,r1,r2,r3,r4,r5⟩
 ·rw[r1]
  rcases Qh4 hT hk hd key hzv hp with⟨q1,q2⟩ | ⟨j,e,q2,q3,q4,q5⟩
  ·refine⟨es.push ⟨Ye k key,tz.z,clock⟩,clock+1,tz.z,clock,?_,by simpa using q2 clock,Qps hst _ _,⟨⟨Ye k key,tz.z,clock⟩,by simp,rfl,rfl⟩,hzv⟩
   simp[Instr.mapEntry,run_underlying hu,MapKept.run_getObj_map hg,K8 hT hk hd,r2,hzr,MapKept.run_setObj_map _ hg,Result.andThen,goInt]
  ·have h2:=q2 0
   rw[QE]at h2
   rw[L1 hT hk hd key w hp h2]at r2
   cases r2
 ·rw[r1]
  rcases Qh4 hT hk hd key r5 hp with⟨q1,q2⟩ | ⟨j',e',q2,q3,q4,q5⟩
  ·rw[q1]at r1; cases r1
  ·have h2:=q2 0
   rw[QE]at h2
   have h3:=L1 hT hk hd key w hp h2
   rw[h3]at r2
   injection r2 with r2
   injection r2 with r2
   injection r2 with r2 r2'
   subst r2
   rw[q3]at r3
   injection r3 with r3
   subst r3
   have q3':es[j']?=some e':=by simpa using q3
   refine⟨es.modify j' fun e=>{ e with key:=Ye k key },clock,e'.val,e'.born,?_,?_,Quh hst (fun _=>rfl),⟨{ e' with key:=Ye k key },?_,rfl,rfl⟩,r5⟩
   ·simp[Instr.mapEntry,run_underlying hu,MapKept.run_getObj_map hg,K8 hT hk hd,h3,q3',q4,Qtw (Jx hd),MapKept.run_setObj_map _ hg,Result.andThen,goInt]
   ·have e1:(es.modify j' fun e=>{ e with key:=Ye k key }).toList=es.toList.modify j' fun e=>{ e with key:=Ye k key,val:=e'.val }:=by
     apply ZU
     intro i
     simp only[ZM,ZQ,WX]
     split
     ·subst_vars; simp[q3']
     ·simp
    show Xn (rt k) s ok w (J9 key y xs) _
    rw[e1]; exact q5
   ·refine JM (i:=j') ?_
    simp[ZQ,q3']
theorem Qql(hT:Q4 P T){t kt:TypeId}{tk:TE}(hk:Qh T kt=some tk)
  {k:Ty} {ν:Type} {s:RT ν} (hd:Yt T k tk.d=true) {ok:Ok} {w:World} {g:Nat} {es:Array MapEntry} {clock:Nat} (hg:w.heap[g]?=some (.map es clock)) {xs:List (k.De×ν)} (hp:Xn (rt k) s ok w xs es.toList) (hst:Fw es clock) (hnd:(xs.map Prod.fst).Nodup)
  (key:k.De) {y:ν} {v:Value} (hv:isV s ok w y v) {e:MapEntry} (he:e∈es.toList) (hek:e.key=Ye k key) :
  ∃es',(Instr.entryStore t (.map (some g)) (.int .i64 ((e.born:Nat):Int)) v).run P w=.ok () { w with heap:=w.heap.setIfInBounds g (.map es' clock) }∧Xn (rt k) s ok w (J9 key y xs) es'.toList∧Fw es' clock:=by
 obtain⟨j,hj⟩:=XC he
 have hf:=Jbo hst.1 hj
 have hkn:(es.toList.map MapEntry.key).Nodup:=by
  rw[Qki (Jx hd) hp,show(xs.map fun q=>Ye k q.1)=(xs.map Prod.fst).map (Ye k)from by simp]
  exact hnd.map _ fun a b hab h=>hab (Q00 hT hk hd w h)
 have hrun:(Instr.entryStore t (.map (some g)) (.int .i64 ((e.born:Nat):Int)) v).run P w=.ok () { w with heap:=w.heap.setIfInBounds g (.map (es.modify j fun e=>{ e with val:=v }) clock) }:=by
  simp[Instr.entryStore,MapKept.run_getObj_map hg,asInt,asIntOf,hf,MapKept.run_setObj_map _ hg,Result.andThen]
 refine⟨_,hrun,?_,Quh hst fun _=>rfl⟩
 rcases Qh4 hT hk hd key hv hp with⟨q1,q2⟩ | ⟨j',e',q2,q3,q4,q5⟩
 ·rcases Ro hT hk hd key w hp with⟨r1,r2⟩ | ⟨j2,e2,y2,r1,_⟩
  ·exfalso
   have hm:Ye k key∈es.toList.map MapEntry.key:=QY.2 ⟨e,he,hek⟩
   rw[Qki (Jx hd) hp]at hm
   obtain⟨q,hq,hqk⟩:=QY.1 hm
   have:=Q00 hT hk hd w hqk
   subst this
   clear q2 r2 r1 hnd hkn hp hm
   induction xs with
   | nil=>cases hq
   | cons x xs ih =>
    simp only[Qr]at q1
    cases hb:eqK k q.1 x.1 with
    | true=>rw[hb]at q1; cases q1
    | false =>
     rw[hb]at q1
     rcases QX.1 hq with rfl | hq
     ·rw[(Zd (Jx hd)).2 rfl]at hb; cases hb
     ·exact ih hq q1
  ·rw[q1]at r1; cases r1
 ·have hjj:j=j':=by
   have h1:=(QK.1 hj)
   have h2:=(QK.1 q3)
   have g1:(es.toList.map MapEntry.key)[j]'(by simpa using h1.1)=(es.toList.map MapEntry.key)[j']'(by simpa using h2.1):=by
    rw[KF,KF,h1.2,h2.2,hek,q4]
   exact(List.getElem_inj hkn).1 g1
  subst hjj
  have e1:(es.modify j fun e=>{ e with val:=v }).toList=es.toList.modify j fun e=>{ e with key:=Ye k key,val:=v }:=by
   have hj':es[j]?=some e:=by simpa using hj
   apply ZU
   intro i
   simp only[ZM,ZQ,WX]
   split
   ·subst_vars; simp[hj',hek]
   ·simp
  rw[e1]; exact q5
end
section
variable {P:Program} {Y:TX} {X:Cx} {S:XS} {β β':Nat→Nat} {ρ ρ':Nat→Value} {a a':Act} {w w':World} {n:Nat}
variable {ops:Array Oper} {Q:Exit→Act→World→Prop} {rest:List Oper} {R:Type} {k:XS→Option R} {r:R}
theorem Q01{M:List (Nat×Ob)}{id:Nat}{ob:Ob}(hm:Qe M id=some ob)(hbb:∀o,(Qw β ρ id ob).cov (β id) o){o:Obj}:Evo (okR X β ρ M w) w { w with heap:=w.heap.setIfInBounds (β id) o }:=by
 obtain⟨l1,l2,e1,_,_⟩:=Ji hm
 refine Evo.of_blocks (by simp) fun b f hk=>?_
 have hne:β id≠b:=fun e=>hk.2.2.2 (Qw β ρ id ob) (by rw[e1]; simp[Qf]) (e▸hbb f)
 simp[ZL,hne]
theorem Q8i{M:List (Nat×Ob)}{id:Nat}{ob ob':Ob}(hm:Qe M id=some ob)(hc:∀b f,(Qw β ρ id ob').cov b f→(Qw β ρ id ob).cov b f){o:Obj}:∀b f,okR X β ρ M w b f→okR X β ρ (Nu M id ob') { w with heap:=w.heap.setIfInBounds (β id) o } b f:=by
 obtain⟨l1,l2,e1,e2,_⟩:=Ji hm
 rintro b f ⟨h1,h2,h3,h4⟩
 refine⟨h1,by simpa using h2,h3,fun t ht=>?_⟩
 rw[e2]at ht
 obtain⟨q,hq,rfl⟩:=QY.1 ht
 rcases QW.1 hq with hq | hq
 ·exact h4 _ (by rw[e1]; exact QY.2 ⟨q,by simp[hq],rfl⟩)
 ·rcases QX.1 hq with rfl | hq
  ·exact fun hcv=>h4 (Qw β ρ id ob) (by rw[e1]; simp[Qf]) (hc b f hcv)
  ·exact h4 _ (by rw[e1]; exact QY.2 ⟨q,by simp[hq],rfl⟩)
theorem Rel.turnM{env:List En}{M:List (Nat×Ob)}(h:Rel X β ρ ⟨env,M⟩ a w){id:Nat}{ob ob':Ob}(hm:Qe M id=some ob)(hb1:∀b o,(Qw β ρ id ob).blks b→(Qw β ρ id ob).cov b o)(hb2:∀g,(Qw β ρ id ob').blks g→(Qw β ρ id ob).blks g){o:Obj}
  (hbb:(Qw β ρ id ob).blks (β id)) (hq:(Qw β ρ id ob').p (okR X β ρ (Nu M id ob') { w with heap:=w.heap.setIfInBounds (β id) o }) { w with heap:=w.heap.setIfInBounds (β id) o }) :
  Rel X β ρ ⟨env,Nu M id ob'⟩ a { w with heap:=w.heap.setIfInBounds (β id) o }:=by
 obtain⟨l1,l2,e1,e2,e3⟩:=Ji hm
 have hO:Qf β ρ M=Qf β ρ l1++Qw β ρ id ob::Qf β ρ l2:=by rw[e1]; simp[Qf]
 have hmem:Qf β ρ (l1++(id,ob')::l2)=Qf β ρ l1++Qw β ρ id ob'::Qf β ρ l2:=by simp[Qf]
 have hS:=Sb.upd h hO (t':=Qw β ρ id ob') (w':={ w with heap:=w.heap.setIfInBounds (β id) o }) rfl rfl rfl (by simp) (fun b hb hn=>by
   have hne:β id≠b:=fun e=>hn (e▸hbb)
   simp[ZL,hne]) hb1 (fun g hg=>.inl (hb2 g hg)) (fun hevo hok=>by rw[←hmem,←e2]; exact hq)
 rw[e2]
 exact Rel.ofSb hS hmem.symm fun e he=>by
  have:=Jf.1 hS.dat _ (QY.2 ⟨e,he,rfl⟩)
  rw[←hmem]at this
  exact this
theorem Q5y(hT:Q4 P Y.T)(hX:X.n=n)(hr:X.res=[])(h:Rel X β ρ S.flat a w){o:Oper}(hw:Region.wanted o (yielded ops a.tmps)=true){t:TypeId}{m ky:Operand}{d:Nat}(hop:o.op=.mapEntry t m ky)(hd:o.dst=some d){te tk tz:TE}{kt et:TypeId}(hte:Qh Y.T t=some te)(htd:te.d=.map kt et)(htk:Qh Y.T kt=some tk)(htz:Qh Y.T et=some tz)
  {id:Nat} {kv za:AV} {kk v:Ty} {xs:List (kk.De×v.De)} {key:kk.De} {z:v.De} (hm:S.ev [] m=some (.m id)) (hkv:S.ev [] ky=some kv) (hmo:Qe S.mem id=some (.map kk v xs)) (hkey:asD [] kv kk=some key) (hza:L2 v tz.z=some za) (hz:asD [] za v=some z)
  (hwd:okW n S d=true) (hb:okB S d=true) (hdk:Yt Y.T kk tk.d=true) (hka:(kk.agg==kv.isAgg)=true) (hva:(v.agg==Qgg tz.z)=true)
  (hk:k ((XS.mk (Yu d S.env) S.fix (Nu S.mem id (.mapE kk v (J9 key ((Qr key xs).getD z) xs) key d)) S.fixM S.prot).put d [] (.tp (.cons (.d v ((Qr key xs).getD z)) (.cons (.b d) .nil))))=some r) (H:KOk P ops Q rest X S β ρ k r):wpList P ops Q (o::rest) a w:=by
 obtain⟨h1,h2⟩:=Yx hwd hX hr
 obtain⟨f1,f2,f3⟩:=Ga hb
 obtain⟨c1,g1,g2⟩:=h.ev (Qc a) hm
 have g2':c1=[.map (some (β id))]:=g2
 subst g2'
 have g1':a.eval m=.map (some (β id)):=g1
 obtain⟨c3,h3,h4⟩:=h.ev (Qc a) hkv
 have hkr:isV (rt kk) (okR X β ρ S.flat.mem w) w key (a.eval ky):=by
  refine⟨c3,Z4 (M:=[]) (β:=β) (ρ:=ρ) (by simp[Qe]) hkey h4,?_⟩
  rw[h3]; simp only[AV.val,RT.val,B6,bEq hka]; cases kv.isAgg<;>rfl
 have hke:=W7 (Jx hdk) hkr
 have hm':Qe S.flat.mem id=some (.map kk v xs):=Q0 hmo
 obtain⟨⟨es,clock,hg,hp,hnd,hst1,hst2⟩,hmine⟩:=h.ob hm'
 have hzv:isV (rt v) (okR X β ρ S.flat.mem w) w z tz.z:=⟨Qu tz.z,Z4 (M:=[]) (β:=β) (ρ:=ρ) (by simp[Qe]) hz (B9 hza),(Qj5 (bEq hva)).symm⟩
 obtain⟨es1,clock1,u,b,hrun,hp1,hst',⟨e0,he0,he1,he2⟩,hu⟩:=Qxe hT hte htd htk htz hdk hg hp ⟨hst1,hst2⟩ key hzv
 have hrun':(execOp a.eval o).run P w=.ok (.value (.tuple #[u,.int .i64 ((b:Nat):Int)])) { w with heap:=w.heap.setIfInBounds (β id) (.map es1 clock1) }:=by
  unfold execOp
  rw[hop]
  simp only[g1',hke]
  simp[hrun]
 refine Jk hw (Yn hrun' ?_)
 rw[hd]
 have hne:id≠d:=by
  obtain⟨l1,l2,e1,_⟩:=Ji hm'
  have hin:(id,Ob.map kk v xs)∈S.mem++S.fixM:=by
   rw[show S.mem++S.fixM=S.flat.mem from rfl,e1]; simp
  exact(Xz f1 _ hin).1
 have hid:upd β d b id=β id:=Zo _ _ hne
 have ha:=Qel d β ρ b (ρ d)
 have hoff:=h.off ha f1 (env':=Jr (Yu d S.env) d++S.fix) fun e he=>let⟨q1,q2,_⟩:=C7 f2 h2 e he; ⟨q1,q2⟩
 have sim:=K9.ok (N6 ha f1) (w:=w) (ok0:=X.ok) (B:=X.w.heap.size) (β:=fun _=>0) (H:=[])
 have hmm:Qe (S.mem++S.fixM) id=some (.map kk v xs):=hm'
 have hev:=Q01 (X:=X) (β:=upd β d b) (ρ:=upd ρ d (ρ d)) (w:=w) (o:=.map es1 clock1) hmm (fun _=>rfl)
 have hok:=Q8i (X:=X) (β:=upd β d b) (ρ:=upd ρ d (ρ d)) (w:=w) (o:=.map es1 clock1) (ob':=.mapE kk v (J9 key ((Qr key xs).getD z) xs) key d) hmm (fun _ _ h=>h)
 have hT1:=hoff.turnM (ob':=.mapE kk v (J9 key ((Qr key xs).getD z) xs) key d) (o:=.map es1 clock1) hmm (fun b o h=>h) (fun g h=>h) rfl ?_
 ·have hu1:=((hu.weak sim).evo hev).weak hok
  obtain⟨cu,hu2,hu3⟩:=hu1
  have hP:=hT1.put0 h1 (x:=.tp (.cons (.d v ((Qr key xs).getD z)) (.cons (.b d) .nil))) (c:=[.tuple #[u,.int .i64 ((b:Nat):Int)]]) ⟨[u,.int .i64 ((b:Nat):Int)],rfl,cu,[.int .i64 ((b:Nat):Int)],?_,hu2,[.int .i64 ((b:Nat):Int)],[],rfl,?_,rfl⟩
  ·rw[hid]at hP
   refine H (upd β d b) (upd ρ d (ρ d)) _ _ _ hk ⟨rfl,rfl,rfl,Wf f3 ha⟩ ?_
   have hE:(XS.put (XS.mk (Yu d S.env) S.fix (Nu S.mem id (.mapE kk v (J9 key ((Qr key xs).getD z) xs) key d)) S.fixM S.prot) d [] (.tp (.cons (.d v ((Qr key xs).getD z)) (.cons (.b d) .nil)))).flat=⟨⟨d,[],.tp (.cons (.d v ((Qr key xs).getD z)) (.cons (.b d) .nil))⟩::(Jr (Yu d S.env) d++S.fix),Nu (S.mem++S.fixM) id (.mapE kk v (J9 key ((Qr key xs).getD z) xs) key d)⟩:=by
    simp only[XS.flat,XS.put,QA]
    rw[K1 hmo]
   rw[hE]
   refine hP.less fun e hm=>?_
   rcases QX.1 hm with rfl | hm
   ·exact .head _
   ·refine .tail _ ?_
    have:Jr (Jr (Yu d S.env) d++S.fix) d=Jr (Yu d S.env) d++S.fix:=by
     rw[K0 h2,Qqg]
    show e∈Jr (Jr (Yu d S.env) d++S.fix) d
    rw[this]; exact hm
  ·rw[hu3]; simp only[AV.val,RT.val,B6,AV.isAgg]; cases v.agg<;>rfl
  ·show [Value.int .i64 ((b:Nat):Int)]=[.int .i64 ((upd β d b d:Nat):Int)]
   rw[Jc]
 ·have hgl:β id<w.heap.size:=Yg hg
  refine⟨es1,clock1,?_,Vo (W6 (Vo hp1 sim) hev) hok,(Lo (Jx hdk) key _ hnd).1,hst'.1,hst'.2,e0,he0,he1▸Qws (Jx hdk) key,by rw[he2,Jc]⟩
  rw[hid]; exact(MapKept.heap_set hg).1
theorem Qxf(hT:Q4 P Y.T)(h:Rel X β ρ S.flat a w){o:Oper}(hw:Region.wanted o (yielded ops a.tmps)=true){t:TypeId}{m st x:Operand}(hop:o.op=.entryStore t m st x)(hd:o.dst=none){tk:TE}{kt:TypeId}(htk:Qh Y.T kt=some tk)
  {id j:Nat} {xv:AV} {kk v:Ty} {xs:List (kk.De×v.De)} {key:kk.De} {y:v.De} (hm:S.ev [] m=some (.m id)) (hst:S.ev [] st=some (.b j)) (hx:S.ev [] x=some xv) (hmo:Qe S.mem id=some (.mapE kk v xs key j)) (hy:asD S.flat.mem xv v=some y)
  (hdk:Yt Y.T kk tk.d=true) (hva:(v.agg==xv.isAgg)=true)
  (hk:k (S.set id (.map kk v (J9 key y xs)))=some r) (H:KOk P ops Q rest X S β ρ k r):wpList P ops Q (o::rest) a w:=by
 obtain⟨c1,g1,g2⟩:=h.ev (Qc a) hm
 have g2':c1=[.map (some (β id))]:=g2
 subst g2'
 have g1':a.eval m=.map (some (β id)):=g1
 obtain⟨c2,g3,g4⟩:=h.ev (Qc a) hst
 have g4':c2=[.int .i64 ((β j:Nat):Int)]:=g4
 subst g4'
 have g3':a.eval st=.int .i64 ((β j:Nat):Int):=g3
 have hxv:isV (rt v) (okR X β ρ S.flat.mem w) w y (a.eval x):=h.asD (Qc a) hx hy (bEq hva)
 have hm':Qe S.flat.mem id=some (.mapE kk v xs key j):=Q0 hmo
 obtain⟨⟨es,clock,hg,hp,hnd,hst1,hst2,e0,he0,he1,he2⟩,hmine⟩:=h.ob hm'
 obtain⟨es',hrun,hp',hst'⟩:=Qql (t:=t) hT htk hdk hg hp ⟨hst1,hst2⟩ hnd key hxv he0 (W7 (Jx hdk) he1)
 rw[he2]at hrun
 have hrun':(execOp a.eval o).run P w=.ok .skip { w with heap:=w.heap.setIfInBounds (β id) (.map es' clock) }:=by
  unfold execOp
  rw[hop]
  simp only[g1',g3']
  simp[hrun]
 refine Jk hw ?_
 unfold Oper.wp
 rw[hrun']
 show wpList P ops Q rest (a.put o.dst undef) _
 rw[hd]
 have hE:(S.set id (.map kk v (J9 key y xs))).flat=⟨S.flat.env,Nu S.flat.mem id (.map kk v (J9 key y xs))⟩:=by
  simp only[XS.flat,XS.set]
  rw[K1 hmo]
 refine H β ρ _ _ _ hk ⟨rfl,rfl,rfl,agP.refl _ _ _⟩ ?_
 rw[hE]
 have hev:=Q01 (X:=X) (β:=β) (ρ:=ρ) (w:=w) (o:=.map es' clock) hm' (fun _=>rfl)
 have hok:=Q8i (X:=X) (β:=β) (ρ:=ρ) (w:=w) (o:=.map es' clock) (ob':=.map kk v (J9 key y xs)) hm' (fun _ _ h=>h)
 exact Rel.turnM (env:=S.flat.env) h (ob':=.map kk v (J9 key y xs)) (o:=.map es' clock) hm' (fun b o h=>h) (fun g h=>h) rfl
  ⟨es',clock,(MapKept.heap_set hg).1,Vo (W6 hp' hev) hok,(Lo (Jx hdk) key y hnd).1,hst'.1,hst'.2⟩
end
end Gx

/- Literals as rows; maps whose values are objects of their own. -/
namespace Gx
open Go Go.RowKit Gd
set_option linter.unusedVariables false
set_option linter.unusedSimpArgs false
theorem Q02{v:Value}(h:Qpz v=true):v=.map none:=by
 unfold Qpz at h
 split at h
 ·rfl
 ·cases h
theorem Q5z{v:Value}(h:Qw3 v=true):v=.slice none 0 0:=by
 unfold Qw3 at h
 split at h
 ·rfl
 ·cases h
def Jqu:CK→Value
 | .sl _ _=>.slice none 0 0
 | .mp _ _=>.map none
theorem Qui{c:CK}{v:Value}(h:Q5n c v=true):v=Jqu c:=by
 cases c with
 | sl e u=>exact Q5z h
 | mp k w=>exact Q02 h
theorem Jgb{c:CK}:(Jqu c).oneCell'=true:=by cases c<;>rfl
theorem Jgc{β:Nat→Nat}{ρ:Nat→Value}{ok:Ok}{w:World}{M:List (Nat×Ob)}(hM:∀id o,Qe M id=some o→(Qw β ρ id o).p ok w){R:Type}{kk:Ty}(hk:Tq kk=true){c:CK}{xs:List (kk.De×c.ty.De)}{hole:Option (kk.De×Nat)}{key:kk.De}{vs:List Value}{ys:List (kk.De×Value)}
  (hrel:B7 c (Qz2 hole) (Lw β ρ c hole) ok w xs ys vs) (habs:∀k,Qz2 hole=some k→k∉xs.map Prod.fst→Lw β ρ c hole=.slice none 0 0) {z:Value} (hz:Q5n c z=true) {av:AV}
  (hav:(∃q,hole=some q∧H8 (Ql6 c (Qe M q.2))=true∧eqK kk key q.1=true∧av=avC c q.2)∨(hole=none∧(∃k v,c=.mp k v)∧Qr key xs=none∧av=.nm)) :
  ∃cs,(Qr key ys).getD z=av.val cs∧cr β ρ ok w false av cs:=by
 have hz:=Qui hz
 rcases hav with⟨q,rfl,hq,he,rfl⟩ | ⟨rfl,⟨k2,v2,rfl⟩,hn,rfl⟩
 ·have hkq:=(Zd hk).1 he
  have hzal:zal ((Qr key ys).getD z) (Lw β ρ c (some q)):=by
   rcases Qj9 key hrel with⟨q1,q2⟩ | ⟨x,y,q1,q2,k1,q3,q4,q5⟩
   ·have hab:=habs q.1 rfl (by rw[←hkq]; exact Qtx hk q1)
    rw[q2,hab]
    cases c with
    | sl e u=>exact .inl hz
    | mp k v=>cases hab
   ·rw[q2]
    exact q5 (by rw[←(Zd hk).1 q3,hkq]; rfl)
  cases hx:Ql6 c (Qe M q.2)with
  | none=>rw[hx]at hq; cases hq
  | some x0 =>
   have hob:=hM _ _ (Qqe hx)
   cases c with
   | sl e u =>
    obtain⟨_,cs,hown,_⟩:=hob
    refine⟨[(Qr key ys).getD z],rfl,⟨_,rfl,hzal⟩,?_⟩
    rcases hown.2 with⟨hv,_⟩ | ⟨g,cap,cur,fz,hv,_⟩<;>exact⟨_,_,_,hv⟩
   | mp k v =>
    rcases hzal with h1 | ⟨h1,_⟩
    ·exact⟨[.map (some (β q.2))],h1,rfl⟩
    ·cases h1
 ·have:Qr key ys=none:=by
   rcases Qj9 key hrel with⟨_,q2⟩ | ⟨x,y,q1,_⟩
   ·exact q2
   ·rw[hn]at q1; cases q1
  rw[this]
  exact⟨[.map none],hz,rfl⟩
section
variable {P:Program} {Y:TX} {X:Cx} {S:XS} {β β':Nat→Nat} {ρ ρ':Nat→Value} {a a':Act} {w w':World} {n:Nat}
variable {ops:Array Oper} {Q:Exit→Act→World→Prop} {rest:List Oper} {R:Type} {k:XS→Option R} {r:R}
theorem Q50(hX:X.n=n)(hr:X.res=[])(h:Rel X β ρ S.flat a w){o:Oper}(hw:Region.wanted o (yielded ops a.tmps)=true){d:Nat}(hd:o.dst=some d)(hwd:okW n S d=true)(hb:okB S d=true){t:TypeId}(hop:o.op=.makeMap t none){kk:Ty}{c:CK}
  (hk:k ((S.born d (.mapC kk c [] none)).put d [] (.m d))=some r) (H:KOk P ops Q rest X S β ρ k r):wpList P ops Q (o::rest) a w:=by
 obtain⟨h1,h2⟩:=Yx hwd hX hr
 obtain⟨f1,f2,f3⟩:=Ga hb
 have hrun:(execOp a.eval o).run P w=.ok (.value (.map (some w.heap.size))) (w.alloc (.map #[] 0)):=by
  unfold execOp
  rw[hop]
  simp[Instr.makeMap]
 refine Jk hw (Yn hrun ?_)
 rw[hd]
 have ha:=Qel d β ρ w.heap.size (.tuple #[])
 have hbel:Below w.heap.size w (w.alloc (.map #[] 0)):=(Below.refl _ _).alloc (QB _) _
 refine H (upd β d w.heap.size) (upd ρ d (.tuple #[])) _ _ _ hk (U3 f3 ha _ _ _) ?_
 have hA:Rel X (upd β d w.heap.size) (upd ρ d (.tuple #[])) ⟨Jr (Yu d S.env) d++S.fix,(d,.mapC kk c [] none)::(S.mem++S.fixM)⟩ a (w.alloc (.map #[] 0)):=by
  refine Rel.alloc h ha f1 (fun e he=>let⟨q1,q2,_⟩:=C7 f2 h2 e he; ⟨q1,q2⟩) hbel (fun g hg=>?_) ?_
  ·have hg':g=upd β d w.heap.size d∨∃v∈To (upd ρ d (.tuple #[]) d),Kb v=some g:=hg
   rw[Jc,Jc]at hg'
   rcases hg' with hg' | ⟨v,hv,_⟩
   ·omega
   ·cases hv
  ·refine⟨[],⟨#[],0,?_,rfl,by simp,by simp⟩,?_,by simp,?_,?_,fun _ e=>by cases e⟩
   ·rw[Jc]; exact heap_alloc_new w _
   ·rw[Jc]; trivial
   ·rw[Jc]; exact .nil
   ·rw[Jc]; simp[To]
 have hP:=hA.put0 h1 (x:=.m d) (c:=[.map (some (upd β d w.heap.size d))]) rfl
 have hv:(AV.m d).val [.map (some (upd β d w.heap.size d))]=.map (some w.heap.size):=by rw[Jc]; rfl
 rw[hv]at hP
 have he:((S.born d (.mapC kk c [] none)).put d [] (.m d)).flat=⟨⟨d,[],.m d⟩::(Jr (Yu d S.env) d++S.fix),(d,.mapC kk c [] none)::(S.mem++S.fixM)⟩:=rfl
 rw[he]
 refine hP.less fun e hm=>?_
 rcases QX.1 hm with rfl | hm
 ·exact .head _
 ·refine .tail _ ?_
  have:Jr (Jr (Yu d S.env) d++S.fix) d=Jr (Yu d S.env) d++S.fix:=by
   rw[K0 h2]
   congr 1
   have idem:∀l:List En,Jr (Jr l d) d=Jr l d:=by
    intro l
    induction l with
    | nil=>rfl
    | cons x l ih =>
     simp only[Jr]
     cases hb:(Nat.beq x.t d||Rn d x.cs)with
     | true=>simpa using ih
     | false=>simp only[cond_false,Jr,hb,ih]
   exact idem _
  show e∈Jr (Jr (Yu d S.env) d++S.fix) d
  rw[this]; exact hm
theorem Jgd{β:Nat→Nat}{ρ:Nat→Value}{ok:Ok}{a:Act}{w:World}{S:St}(h:Ca β ρ ok S a w){cur:Y8}(hc:Jt a cur){ky:Operand}{kv:AV}(hkv:Gx.ev S cur ky=some kv){kk:Ty}{key:kk.De}(hkey:asD [] kv kk=some key){d:TypeDesc}{T:Tab}(hdk:Yt T kk d=true)(hka:(kk.agg==kv.isAgg)=true):a.eval ky=Ye kk key:=by
 obtain⟨c3,h3,h4⟩:=h.ev hc hkv
 refine W7 (ok:=ok) (w:=w) (Jx hdk) ⟨c3,Z4 (M:=[]) (β:=β) (ρ:=ρ) (by simp[Qe]) hkey h4,?_⟩
 rw[h3]; simp only[AV.val,RT.val,B6,bEq hka]; cases kv.isAgg<;>rfl
theorem Q03(hT:Q4 P Y.T)(hX:X.n=n)(hr:X.res=[])(h:Rel X β ρ S.flat a w){o:Oper}(hw:Region.wanted o (yielded ops a.tmps)=true)(hs:Qfs Y n o S k=some r)(H:KOk P ops Q rest X S β ρ k r):wpList P ops Q (o::rest) a w:=by
 unfold Qfs at hs
 split at hs
 ·rename_i t m ps d hop hd
  split at hs
  ·rename_i te hte
   split at hs
   ·rename_i e htd0
    split at hs
    ·rename_i ee u vs he hu hvs
     split at hs
     ·rename_i xs hxs
      obtain⟨hb,hk⟩:=bvT hs
      simp only[QQ]at hb
      obtain⟨⟨⟨⟨⟨⟨hwd,hbb⟩,hsz⟩,hl⟩,hsm⟩,hpos⟩,hzl⟩:=hb
      have htd:=Yv htd0
      obtain⟨f1,f2,f3⟩:=Ga hbb
      obtain⟨h1,h2⟩:=Yx hwd hX hr
      have hg:=L6 h hw
      obtain⟨us,q1,q2,q3,q4⟩:=Qxb h hvs hxs
      have hes:=QJ hsz
      have hxl:=QJ hl
      have hcl:∀v∈us,(Qu v).length=ee.size:=fun v hv=>by rw[Qj6 q2 v hv,Jh,hes]
      have hz0:(Uz (Qu ee.z) ((m+1)*ee.size)).length=(m+1)*ee.size:=by simp[Uz]
      have hfill:=Q0e us 0 (Uz (Qu ee.z) ((m+1)*ee.size)) hcl (by rw[hz0,QE,q3,hxl]; exact QB _)
      rw[←q1]at hfill
      have hfill':Nz (Qcd ee.size) (Uz (Qu ee.z) ((m+1)*ee.size)) (ps.map (fun p=>(p.1,a.eval p.2)))=some (us.flatMap Qu):=by
       rw[hfill]
       simp only[XB,ZA,QD,QE]
       rw[XN (by rw[hz0,q3,hxl]; exact QB _),QR]
      rw[Cc o,hd,hop]at hg ⊢
      refine Q0y hT h.toG (r:=rt u) hg h1 q4 hte htd he (by rw[Jh]; exact hes) hxl hsm hpos (ZB (JB _)) hzl hfill' q2 fun b a' w' hS=>?_
      refine H β (upd ρ d (.slice (some ⟨b,0,none⟩) xs.length (m+1))) _ _ _ hk (U3 f3 (Jz d β ρ _) _ _ _) ?_
      have:=Zw (o:=.row e u xs) hX hr h.sz hwd f1 f2 f3 hS (by simp only[Qw,Jc]; exact X7.refl _) ⟨_,_,_,rfl⟩
      exact this
     ·cases hs
    ·cases hs
   ·cases hs
  ·cases hs
 ·
  rename_i t rs d hop hd
  split at hs
  ·rename_i te hte
   split at hs
   ·rename_i kt et htd
    split at hs
    ·rename_i kk c hkk hc
     obtain⟨hb,hk⟩:=bvT hs
     simp only[QQ]at hb
     have hrs:=Qen hb.2
     subst hrs
     exact Q50 hX hr h hw hd hb.1.1 hb.1.2 hop hk H
    ·cases hs
   ·cases hs
  ·cases hs
 ·
  rename_i t m ky x hop hd
  split at hs
  ·rename_i te id kv xv hte hm hkv hx
   split at hs
   ·rename_i kt et kk c xs hole htd hmo
    split at hs
    ·rename_i tk key htk hkey
     obtain⟨hb,hs⟩:=bvT hs
     simp only[QQ]at hb
     exact Jpa hT h hw hop hd hte htd htk hm hkv hx hmo hkey hb.1 hb.2 hs H
    ·cases hs
   ·cases hs
  ·cases hs
 ·
  rename_i t m ky d hop hd
  split at hs
  ·rename_i te id kv hte hm hkv
   split at hs
   ·rename_i kt et kk v xs htd hmo
    split at hs
    ·rename_i tk tz key htk htz hkey
     split at hs
     ·rename_i za hza
      split at hs
      ·rename_i z hz
       obtain⟨hb,hk⟩:=bvT hs
       simp only[QQ]at hb
       exact Q5y hT hX hr h hw hop hd hte htd htk htz hm hkv hmo hkey hza hz hb.1.1.1.1 hb.1.1.1.2 hb.1.1.2 hb.1.2 hb.2 hk H
      ·cases hs
     ·cases hs
    ·cases hs
   ·cases hs
  ·cases hs
 ·
  rename_i t m st x hop hd
  split at hs
  ·rename_i id j xv hm hst hx
   split at hs
   ·rename_i kk v xs key j' hmo
    split at hs
    ·rename_i te hte
     split at hs
     ·rename_i kt et htd
      split at hs
      ·rename_i tk y htk hy
       obtain⟨hb,hk⟩:=bvT hs
       simp only[QQ]at hb
       have hj:=QJ hb.1.1
       subst hj
       exact Qxf hT h hw hop hd htk hm hst hx hmo hy hb.1.2 hb.2 hk H
      ·cases hs
     ·cases hs
    ·cases hs
   ·cases hs
  ·cases hs
 ·
  rename_i t m ky d hop hd
  split at hs
  ·rename_i te kv hte hkv
   split at hs
   ·rename_i kt et htd
    split at hs
    ·rename_i tk tz id htk htz hm
     split at hs
     ·rename_i kk c xs hole hmo
      split at hs
      ·rename_i key hkey
       replace hs:=bvT hs
       obtain⟨hb,hs⟩:=hs
       simp only[QQ]at hb
       obtain⟨⟨⟨hwd,hdk⟩,hka⟩,hz⟩:=hb
       have gen:∀av,((∃q,hole=some q∧H8 (Ql6 c (Qe S.flat.mem q.2))=true∧eqK kk key q.1=true∧av=avC c q.2)∨(hole=none∧(∃k v,c=.mp k v)∧Qr key xs=none∧av=.nm))→k (S.put d [] av)=some r→wpList P ops Q (o::rest) a w:=by
        intro av hav hk
        refine Jfy hX hr h hw hd hwd (x:=av) (fun {β ρ ok a w} h hc=>?_) hk H
        obtain⟨c1,h1,h2⟩:=h.ev hc hm
        have h2':c1=[.map (some (β id))]:=h2
        subst h2'
        have h1':a.eval m=.map (some (β id)):=h1
        have hke:=Jgd h hc hkv hkey hdk hka
        obtain⟨ys,⟨es,clock,hg,hp,_⟩,hrel,_,_,_,habs⟩:=h.mm _ _ hmo
        obtain⟨v,hrun,hv,_⟩:=Qpr hT hte htd htk htz hdk hg hp key (z:=tz.z) ⟨[tz.z],⟨rfl,by rw[Qui hz]; exact Jgb⟩,rfl⟩ false
        obtain⟨cs0,⟨e0,_⟩,hv⟩:=hv
        have hv:v=(Qr key ys).getD tz.z:=by rw[hv,e0]; rfl
        obtain⟨cs,q1,q2⟩:=Jgc (R:=R) h.mm (Jx hdk) hrel habs hz hav
        refine⟨cs,?_,q2⟩
        unfold execOp
        rw[hop]
        simp only[h1',hke]
        simp only[XY,if_false]at hrun
        simp[hrun,hv,q1]
       unfold Q5o at hs
       split at hs
       ·rename_i q
        replace hs:=bvT hs
        obtain⟨hq,hs⟩:=hs
        obtain⟨_,hch,hk⟩:=Yi hs
        unfold chk at hch
        exact gen _ (.inl ⟨q,rfl,hq,(bvT hch).1,rfl⟩) hk
       ·rename_i k2 v2 xs
        obtain⟨_,hch,hk⟩:=Yi hs
        unfold chk at hch
        exact gen _ (.inr ⟨rfl,⟨_,_,rfl⟩,Qen (bvT hch).1,rfl⟩) hk
       ·cases hs
      ·cases hs
     ·exact Qug hT hX hr h hw hs H
    ·rename_i tk tz htk htz hm
     split at hs
     ·rename_i kk v hkk hvv
      split at hs
      ·rename_i key za hkey hza
       split at hs
       ·rename_i z hz
        obtain⟨hb,hk⟩:=bvT hs
        simp only[QQ]at hb
        obtain⟨⟨⟨hwd,hdk⟩,hka⟩,hva⟩:=hb
        refine Jfy hX hr h hw hd hwd (x:=.d v z) (fun {β ρ ok a w} h hc=>?_) hk H
        obtain⟨c1,h1,h2⟩:=h.ev hc hm
        have h2':c1=[.map none]:=h2
        subst h2'
        have h1':a.eval m=.map none:=h1
        have hke:=Jgd h hc hkv hkey hdk hka
        have hrun:=Qsw (w:=w) hT hte htd htk htz hdk key false
        refine⟨Qu tz.z,?_,Z4 (M:=[]) (β:=β) (ρ:=ρ) (by simp[Qe]) hz (B9 hza)⟩
        have hvz:(AV.d v z).val (Qu tz.z)=tz.z:=by
         have:=Qj5 (bEq hva)
         simp only[AV.val,AV.isAgg]
         simp only[RT.val,B6]at this
         cases hv2:v.agg<;>rw[hv2]at this<;>exact this
        unfold execOp
        rw[hop]
        simp only[h1',hke,hvz]
        simp only[XY,if_false]at hrun
        simp[hrun]
       ·cases hs
      ·cases hs
     ·cases hs
    ·cases hs
   ·cases hs
  ·cases hs
 ·cases hs
end
end Gx
