/- The rest of the state set aside; objects that are no cells; pieces of code in a round. -/
import Derived.Test.YtcaflpbiaeemgaaGreatXRc
import Derived.RangeFuncRecord
import Derived.TacticsIn
import Derived.RangeFuncOwn
import Derived.RangeFuncIn
import Derived.RangeFuncLeaves
import Derived.Test.YtcaflpbiaeemgaaGreatGRows
import Derived.Lib.ItoaNum
import Derived.Lib.LaidTab
import Derived.Lib.AppendIntMem
import Derived.Lib.Bytealg
import Derived.Lib.SlTrimSet
import Derived.Lib.Walk
import Derived.Lib.SlKeysI
import Derived.Maps.Views
set_option linter.unusedVariables false
set_option linter.unusedSimpArgs false
set_option linter.constructorNameAsVariable false
namespace Gx
open Go Go.RowKit Gd
section
variable {P:Program} {Y:TX} {X:Cx} {β β':Nat→Nat} {ρ ρ':Nat→Value} {S S':St} {a a':Act} {w w':World}
noncomputable def reX(X:Cx)(β:Nat→Nat)(ρ:Nat→Value)(M:List (Nat×Ob))(w:World):Cx :=
 { cxL (Im w.heap.size (Qq β ρ M)) X.n (okR X β ρ M w) w with dfs:=X.dfs }
theorem Xc{n:Nat}{O:List TL}{g:Nat}:g∈Im n O↔g<n∧∃t∈O,t.blks g:=by
 simp_all [Im,QB,JU,decide_eq_true_eq]
theorem J6d{M:List (Nat×Ob)}(hV:Gn M=true):∀t∈Qq β ρ M,∀b o,t.blks b→t.cov b o:=fun t ht b o hb=>by
 obtain⟨q,hq,rfl⟩:=QK.1 ht;grind [Qoa]
theorem Q7d{gl:List (Nat×Σ t:Ty,t.De)}(hG:Zj gl (okN X) X.w)(h:Rel X β ρ S a w)(hV:Gn S.mem=true) :
    Rel (reX X β ρ S.mem w) β ρ S a w∧Zj gl (okN (reX X β ρ S.mem w)) (reX X β ρ S.mem w).w:=by
  have hL1:∀t∈Qq β ρ S.mem,∀g,t.blks g→g∈Im w.heap.size (Qq β ρ S.mem):=fun t ht g hg=>Xc.2 ⟨h.olt ht hg,t,ht,hg⟩
  have hk:∀b f,Jr X.ok X.w.heap.size (fun _=>0) [] (Qq β ρ S.mem) w b f→Jr (okL (Im w.heap.size (Qq β ρ S.mem)) (Jr X.ok X.w.heap.size (fun _=>0) [] (Qq β ρ S.mem) w)) w.heap.size (fun _=>0) [] (Qq β ρ S.mem) w b f :=
    fun b f hbo=>⟨.inl (.inl hbo),hbo.2.1,by simp,fun t ht hc=>hbo.2.2.2 t ht hc⟩
  refine⟨?_,?_⟩
  · exact { sz:=h.sz,df:=h.df,fr:=by simp[reX],pn:=by simp[reX],tm:=by simp,bel:=Ki.refl _ _ _,obj:=by simp,dHH:=by simp,dHO:=by simp,
            dat:=Yq.2 fun x hx=>by
              obtain⟨e,he,rfl⟩:=QK.1 hx;exact(enD β ρ a e).weak (Yq.1 h.dat _ (QK.2 ⟨e,he,rfl⟩)) hk,
            own:=fun t ht=>⟨t.weak (h.own t ht).1 hk,fun g hg=>.inr (hL1 t ht g hg)⟩,
            dOO:=h.dOO }
  · exact(Qd9 h hG).weak fun b f hbo=>⟨.inl hbo,fun hbl=>by
      obtain⟨_,t,ht,hg⟩:=Xc.1 hbl
      exact hbo.2.2.2 t ht (J6d hV t ht b f hg),hbo.2.1⟩
theorem Q7e(h:Rel X β ρ S a w)(hV:Gn S.mem=true)(hr:X.res=[])(hp:X.pin=none)(hR:Rel (reX X β ρ S.mem w) β' ρ' S' a' w'):Rel X β' ρ' S' a' w':=by
 have hL2:∀g∈Im w.heap.size (Qq β ρ S.mem),∃t∈Qq β ρ S.mem,t.blks g:=fun g hg=>(Xc.1 hg).2;have hS:Sb (fun _=>0) X [] (S.env.map (enD β ρ a)) [] (Qq β ρ S.mem++[]) a w:=by rw[QH]; exact h
 have eo:Jr X.ok X.w.heap.size (fun _=>0) [] (Qq β ρ S.mem++[]) w=Jr X.ok X.w.heap.size (fun _=>0) [] (Qq β ρ S.mem) w:=by rw[QH]
 have hC:=Sb.callO (O1':=Qq β' ρ' S'.mem) (w':=w') (L:=Im w.heap.size (Qq β ρ S.mem)) hS hR.bel hL2 (J6d hV) (fun t ht=>⟨by rw[eo]; exact(hR.own t ht).1,fun g hg=>(hR.own t ht).2 g hg⟩) hR.dOO;rw[QH]at hC
 have hC3:Sb (fun _=>0) X [] [] [] (Qq β' ρ' S'.mem) a' w' :=
  { sz:=hR.sz,df:=hR.df,fr:=by rw[hr]; simp,pn:=by rw[hp]; simp,tm:=by simp,bel:=hC.bel,dat:=trivial,obj:=by simp,own:=hC.own,dHH:=by simp,dHO:=by simp,dOO:=hC.dOO }
 refine Rel.ofSb hC3 rfl fun e he=>?_;have h1:=Yq.1 hR.dat _ (QK.2 ⟨e,he,rfl⟩);refine(enD β' ρ' a' e).weak h1 fun b f hbf=>?_;have h2:=Qlv (O1':=Qq β' ρ' S'.mem) hS hR.bel.size hL2 b f (by rw[eo]; exact hbf);rw[QH]at h2;exact h2
theorem Q7f{e sz:Nat}{v:Value}{n:Nat}{xs:List Value}(h:w.ownsRowS 0 e sz v n xs){g:Nat}(hg:v.ownBlock=some g):∃o:Obj,w.heap[g]?=some o∧(o.isCells=true∨∃es c,o=.map es c):=by
 rcases h.2 with⟨rfl,_⟩ | ⟨g',cap,cur,fz,rfl,_,hh,_⟩
 ·cases hg
 ·have hg:some g'=some g:=hg
  injection hg with hg; subst hg
  exact⟨_,hh,.inl rfl⟩
theorem Q3x{κ:Type}{c:CK}{hole:Option κ}{hv:Value}{ok:Ok}:∀{xs:List (κ×c.ty.De)} {ys:List (κ×Value)} {vs:List Value},Ny c hole hv ok w xs ys vs→∀v∈vs,∀g,Wa v=some g→∃o:Obj,w.heap[g]?=some o∧(o.isCells=true∨∃es c,o=.map es c)
 | [],[],[],h=>by simp
 | x::xs,y0::ys,v::vs,⟨h1,h3,h4⟩=>by
  intro y hy g hg;rcases QX.1 hy with rfl | hy
  ·rcases h3 with⟨_,rfl,_⟩ | ⟨_,_,h3⟩
   ·cases hg
   ·cases c with
    | sl e u =>
     obtain⟨_,cs,h3,_⟩:=h3;grind [Q7f,Qi6]
    | mp k v =>
     obtain⟨g',rfl,es,c,h1,_⟩:=h3;injection hg with hg
     grind
  ·exact Q3x h4 y hy g hg
 | [],[],_::_,h=>h.elim
 | [],_::_,_,h=>h.elim
 | _::_,[],_,h=>h.elim
 | _::_,_::_,[],h=>h.elim
theorem Juo{ok:Ok}{id:Nat}{o:Ob}(h:(Jb β ρ id o).p ok w){g:Nat}(hg:(Jb β ρ id o).blks g):∃o:Obj,w.heap[g]?=some o∧(o.isCells=true∨∃es c,o=.map es c):=by
 cases o with
 | var tid c =>
  obtain⟨cs,h1,_⟩:=h;have hg:g=β id:=hg;subst hg;exact⟨_,h1,.inl rfl⟩
 | row e t xs =>
  obtain⟨_,cs,h1,_⟩:=h;exact Q7f h1 hg
 | tail e t xs =>
  obtain⟨_,ys,h1⟩:=h;exact Q7f h1 hg
 | map k v xs =>
  obtain⟨es,c,h1,_⟩:=h;have hg:g=β id:=hg;grind
 | mapC k v xs hole =>
  obtain⟨ys,⟨es,c,h1,_⟩,h2,_⟩:=h;rcases hg with hg | ⟨v,hv,hg⟩
  ·grind
  grind [Q3x]
theorem Rel.notOwn(h:Rel X β ρ S a w){g:Nat}{o:Obj}(ho:w.heap[g]?=some o)(hc:o.isCells=false)(hm:∀es c,o≠.map es c):∀t∈Qq β ρ S.mem,¬ t.blks g:=fun t ht hg=>by
 obtain⟨q,hq,rfl⟩:=QK.1 ht;obtain⟨o',h1,h2⟩:=Juo (h.own _ ht).1 hg;rw[ho]at h1;grind
theorem Jp6{g o:Nat}{ob:Obj}(h:w.heap[g]?=some ob)(hc:ob.isCells=false):w.cell? ⟨g,o,none⟩=none:=by
 grind [World.cell?,Obj.isCells]
theorem Rel.turn(h:Rel X β ρ S a w){g:Nat}{o o':Obj}(hB:X.w.heap.size≤g)(ho:w.heap[g]?=some o)(hc:o.isCells=false)(hm:∀es c,o≠.map es c)(hc':o'.isCells=false):Rel X β ρ S a (w.putObj g o'):=by
  have hn:=h.notOwn ho hc hm;have hsame:∀b,b≠g→(w.putObj g o').heap[b]?=w.heap[b]?:=fun b hb=>World.putObj_heap_other hb;have hlt:=(Array.getElem?_eq_some_iff.1 ho).1
  have hevo:Evo (Jr X.ok X.w.heap.size (fun _=>0) [] (Qq β ρ S.mem) w) w (w.putObj g o') :=
    ⟨by simp,fun b f _=>by
      grind [Jp6,World.putObj_heap_same,World.cell?_of_block],fun b es c _ hb=>by
      have hne:b≠g:=fun e=>by grind
      rw[hsame b hne]; exact hb⟩
  have hok:∀b f,Jr X.ok X.w.heap.size (fun _=>0) [] (Qq β ρ S.mem) w b f→Jr X.ok X.w.heap.size (fun _=>0) [] (Qq β ρ S.mem) (w.putObj g o') b f:=fun b f ⟨h1,h2,h3,h4⟩=>⟨h1,by simpa using h2,h3,h4⟩
  exact { sz:=h.sz,df:=h.df,fr:=h.fr,pn:=h.pn,tm:=h.tm,bel:=h.bel.trans ⟨rfl,rfl,rfl,by simp,fun k hk _=>hsame k (by omega)⟩,dat:=(h.dat.evo hevo).weak hok,obj:=by simp,
          own:=fun t ht=>⟨t.weak (t.keep (h.own t ht).1 (fun b hb=>hsame b fun e=>hn t ht (e▸hb)) hevo) hok,(h.own t ht).2⟩,dHH:=by simp,dHO:=by simp,dOO:=h.dOO }
theorem Rel.withD(h:Rel X β ρ S a w)(ds:List Deferred):Rel { X with dfs:=ds } β ρ S { a with defers:=ds } w :=
 { sz:=h.sz,df:=rfl,fr:=h.fr,pn:=h.pn,tm:=h.tm,bel:=h.bel,dat:=h.dat,obj:=h.obj,own:=h.own,dHH:=h.dHH,dHO:=h.dHO,dOO:=h.dOO }
end
def Rn(ds:List Nat)(a a':Act):Prop:=∀t,t∉ds→a'.tmps[t]?=a.tmps[t]?
theorem Rn.put{ds:List Nat}{a0 a:Act}(h:Rn ds a0 a){o:Option Nat}(ho:∀d,o=some d→d∈ds)(v:Value):Rn ds a0 (a.put o v):=fun t ht=>by
 cases o with
 | none=>exact h t ht
 | some d=>rw[Vy (fun e=>ht (by grind))]; exact h t ht
abbrev Qnf(ro:Option Nat):Fence:={ Fence.wide with round:=ro }
def QL(ds:List Nat)(a0:Act)(Z:Act→World→Prop)(Q:Exit→Act→World→Prop):Exit→Act→World→Prop
 | .normal,a',w'=>Rn ds a0 a'→Z a' w'
 | e,a',w'=>Q e a' w'
def QS(ds:List Nat)(a0:Act)(Q:Exit→Act→World→Prop):Exit→Act→World→Prop:=QL ds a0 (Q .normal) Q
def Qf8:List Oper→Bool
 | []=>true
 | o::l=>(match o.op with
  | .defer _=>false
  | _=>true)&&Qf8 l
def Gf:List Oper→List Nat
 | []=>[]
 | o::l=>match o.dst with
  | some d=>d::Gf l
  | none=>Gf l
theorem Q7g{P:Program}{row:String}{args:Array Value}{w:World}{R:Value→World→Prop}(ro:Option Nat)(m:Nat)(h:Rows P row args w R):RowsIn (Qnf ro) m P row args w R :=
 fun c cs _=>let⟨v,w',r,s⟩:=h c cs; ⟨v,w',r,(stepsIn_wide.2 s:StepsIn (Machine.fenced P Fence.wide) P _ _)⟩
theorem Q1g{P:Program}{f:FuncId}{args:Array Value}{w:World}{R:Ending→World→Prop}(ro:Option Nat)(m:Nat)(h:Calls P f args w R):CallsIn (Qnf ro) m P f args w R:=(callsIn_wide.2 h:CallsIn Fence.wide m P f args w R)
theorem Qsh{P:Program}{ops:Array Oper}{Q:Exit→Act→World→Prop}{ro:Option Nat}{m:Nat}{ds:List Nat}{a0:Act}{Z:Act→World→Prop}{tl:List Oper}(hQ:¬ LetsOut Q)(hZ:∀a w,Z a w→wpListIn (Qnf ro) m P ops Q tl a w):∀(os:List Oper),Qf8 os=true→(∀d∈Gf os,d∈ds)→∀(a:Act) (w:World),Rn ds a0 a→wpList P ops (QL ds a0 Z Q) os a w→wpListIn (Qnf ro) m P ops Q (os++tl) a w
 | [],_,_,a,w,hs,h=>hZ a w (h hs)
 | o::os,hn,hd,a,w,hs,h=>by
  simp only[Qf8,QQ]at hn;have hod:∀d,o.dst=some d→d∈ds:=fun d e=>hd d (by simp[Gf,e]);have hd2:∀d∈Gf os,d∈ds:=fun d hm=>hd d (by grind [Gf]);have ih:∀(a:Act) (w:World),Rn ds a0 a→wpList P ops (QL ds a0 Z Q) os a w→wpListIn (Qnf ro) m P ops Q (os++tl) a w:=fun a w=>Qsh hQ hZ os hn.2 hd2 a w;unfold wpList at h;rw[QD];unfold wpListIn;split at h
  ·rename_i hw
   rw[if_pos hw];refine⟨fun _ _=>trivial,?_⟩
   have hnd:∀c,o.op≠.defer c:=fun c hc=>by
    have:=hn.1;rw[hc]at this; cases this
   have hsem:Oper.semAt (Qnf ro).round a.eval o=execOp a.eval o:=by
    cases ro with
    | none=>exact Oper.semAt_none _ _
    | some l=>grind [Oper.semAt_some]
   rw[hsem];rcases h with h | ⟨_,h⟩
   ·unfold Oper.wp at h
    cases hr:(execOp a.eval o).run P w with
    | ok nx w' =>
     rw[hr]at h;cases nx with
     | value v=>exact ih _ _ (hs.put hod v) h
     | skip=>exact ih _ _ (hs.put hod undef) h
     | defer d=>exact ih _ _ (Rn.put (a:={ a with defers:=d::a.defers }) hs hod undef) h
     | enter f args =>
      refine⟨fun hd=>(by have h0:(Qnf ro).depth.isSome=false:=rfl; rw[h0]at hd; cases hd),?_⟩;refine Q1g ro _ (Calls.mono h fun e w' he=>?_);cases e with
      | returned v=>exact ih _ _ (hs.put hod v) he
      | panicked c=>exact he
      | outgrown=>exact he
     | row rw' args =>
      exact⟨fun hd=>(by have h0:(Qnf ro).depth.isSome=false:=rfl; rw[h0]at hd; cases hd),Q7g ro _ (Rows.mono h fun v w' hv=>ih _ _ (hs.put hod v) hv)⟩
     | _=>exact h.elim
    | halt hl w' =>
     rw[hr]at h;cases hl with
     | panic v=>exact h
     | _=>exact h.elim
   ·exact absurd (show LetsOut Q from h) hQ
  ·rename_i hw
   rw[if_neg hw];exact⟨fun _ _=>trivial,ih _ _ (hs.put hod undef) h⟩
theorem Q3y{P:Program}{ops:Array Oper}{Q:Exit→Act→World→Prop}{ro:Option Nat}{m:Nat}{ds:List Nat}{a0:Act}(hQ:¬ LetsOut Q)(os:List Oper)(hn:Qf8 os=true)(hd:∀d∈Gf os,d∈ds)(a:Act)(w:World)(hs:Rn ds a0 a)(h:wpList P ops (QS ds a0 Q) os a w):wpListIn (Qnf ro) m P ops Q os a w:=by
 have:=Qsh (ro:=ro) (m:=m) (Z:=Q .normal) (tl:=[]) hQ (fun a w hz=>hz) os hn hd a w hs h
 rwa[QH]at this
def rb:An→Code→Bool
 | .nil,.skip=>true
 | .reg _,.region _ ⟨ops⟩ false=>Qf8 ops
 | .two a b,.seq x y=>rb a x&&rb b y
 | .two a b,.cond _ x y=>rb a x&&rb b y
 | .un a,.block _ c=>rb a c
 | .gh _ a,c=>rb a c
 | _,_=>false
def K7:Code→List Nat
 | .region _ ⟨ops⟩ _=>Gf ops
 | .seq x y=>K7 x++K7 y
 | .cond _ x y=>K7 x++K7 y
 | .block _ c=>K7 c
 | _=>[]
section
variable {P:Program} {Y:TX} {X:Cx} {n N:Nat} {K:List Con}
theorem Qb3(hT:Jg P Y.T)(hmix:P.follows .mixedOrders=true)(hK:KsX P Y X K)(hX:X.n=n)(hr:X.res=[])(hpin:X.pin=none){ro:Option Nat}{m:Nat}{ds:List Nat}{a0:Act}:∀{R:Type} {r:R} (an:An) {c:Code} {S:XS} {β:Nat→Nat} {ρ:Nat→Value} {a:Act} {w:World} {k:Ex→XS→Option R} {Q:Exit→Act→World→Prop},
  rb an c=true→¬ LetsOut Q→(∀d∈K7 c,d∈ds)→Rn ds a0 a→Rel X β ρ S.flat a w→Xy Y K n N an c S k=some r →
  (∀(e:Ex) (β':Nat→Nat) (ρ':Nat→Value) (S':XS) (a':Act) (w':World),k e S'=some r→Vv S S' β β' ρ ρ'→Rel X β' ρ' S'.flat a' w'→Rn ds a0 a'→Q e.exit a' w')→c.wpIn (Qnf ro) m P Q a w
 | R,r,.nil,c,S,β,ρ,a,w,k,Q,hb,hQ,hd,ha,h,hs,H=>by
  cases c<;>first | (cases hb; done) | skip
  simp only[Xy]at hs;exact wpIn_skip (H .n β ρ S a w hs (Vv.refl _ _ _) h ha)
 | R,r,.reg hn,c,S,β,ρ,a,w,k,Q,hb,hQ,hd,ha,h,hs,H=>by
  cases c with
  | region id ops draw =>
   obtain⟨ops⟩:=ops;cases draw with
   | true=>cases hb
   | false =>
    simp only[Xy]at hs;refine wpIn_region_list ?_;have:=Uf hT hK hX hr (Q:=QS ds a0 Q) hn (l:=ops) (rest:=[]) h hs fun β' ρ' S' a' w' h1 h2 h3=>fun hsame=>H .n β' ρ' S' a' w' h1 h2 h3 hsame;rw[QH]at this;exact Q3y hQ ops hb hd a w ha this
  | _=>cases hb
 | R,r,.two x y,c,S,β,ρ,a,w,k,Q,hb,hQ,hd,ha,h,hs,H=>by
  cases c<;>first | (cases hb; done) | skip
  ·rename_i c1 c2
   simp only[Xy]at hs;simp only[rb,QQ]at hb;refine wpIn_seq (Qb3 hT hmix hK hX hr hpin x hb.1 hQ (fun d hm=>hd d (List.mem_append_left _ hm)) ha h hs fun e β' ρ' S' a' w' h1 h2 h3 h4=>?_);cases e with
   | n=>exact Qb3 hT hmix hK hX hr hpin y hb.2 hQ (fun d hm=>hd d (List.mem_append_right _ hm)) h4 h3 h1 fun e β2 ρ2 S2 a2 w2 q1 q2 q3 q4=>H e β2 ρ2 S2 a2 w2 q1 (h2.trans q2) q3 q4
   | x i=>exact H (.x i) β' ρ' S' a' w' h1 h2 h3 h4
   | r=>exact H .r β' ρ' S' a' w' h1 h2 h3 h4
  ·rename_i co c1 c2
   simp only[Xy]at hs;simp only[rb,QQ]at hb;split at hs
   ·rename_i v hv
    obtain⟨cs,h1,h2⟩:=h.ev (Qi a) hv;have h2':cs=_:=h2;subst h2';have h1':a.eval co=.bool v:=h1;refine wpIn_cond h1' ?_;cases v with
    | true =>
     rw[if_pos rfl]at hs ⊢;exact Qb3 hT hmix hK hX hr hpin x hb.1 hQ (fun d hm=>hd d (List.mem_append_left _ hm)) ha h hs H
    | false =>
     rw[if_neg (by simp)]at hs ⊢;exact Qb3 hT hmix hK hX hr hpin y hb.2 hQ (fun d hm=>hd d (List.mem_append_right _ hm)) ha h hs H
   ·cases hs
 | R,r,.un x,c,S,β,ρ,a,w,k,Q,hb,hQ,hd,ha,h,hs,H=>by
  cases c<;>first | (cases hb; done) | skip
  rename_i id c1;simp only[Xy]at hs;have hQ2:¬ LetsOut (Exit.inBlock id Q):=hQ;refine wpIn_block (Qb3 hT hmix hK hX hr hpin x hb hQ2 hd ha h hs fun e β' ρ' S' a' w' h1 h2 h3 h4=>?_);cases e with
  | n=>exact H .n β' ρ' S' a' w' h1 h2 h3 h4
  | x i =>
   simp only at h1;show if i=id then Q .normal a' w' else Q (.exit i) a' w'
   cases hb:Nat.beq i id with
   | true =>
    rw[hb]at h1;rw[if_pos (Nat.eq_of_beq_eq_true hb)];exact H .n β' ρ' S' a' w' h1 h2 h3 h4
   | false =>
    rw[hb]at h1;rw[if_neg (fun e=>by rw[e,Nat.beq_refl]at hb; cases hb)];exact H (.x i) β' ρ' S' a' w' h1 h2 h3 h4
  | r=>exact H .r β' ρ' S' a' w' h1 h2 h3 h4
 | R,r,.gh g x,c,S,β,ρ,a,w,k,Q,hb,hQ,hd,ha,h,hs,H=>by
  simp only[Xy]at hs;obtain⟨S1,β1,ρ1,q1,q2,q3⟩:=Qf6 g h hs;have hb':rb x c=true:=by cases c<;>exact hb
  exact Qb3 hT hmix hK hX hr hpin x hb' hQ hd ha q3 q1 fun e β2 ρ2 S2 a2 w2 p1 p2 p3 p4=>H e β2 ρ2 S2 a2 w2 p1 (q2.trans p2) p3 p4
 | R,r,.dr _ _ _,c,S,β,ρ,a,w,k,Q,hb,hQ,hd,ha,h,hs,H=>by cases c<;>cases hb
 | R,r,.dc _ _ _ _ _,c,S,β,ρ,a,w,k,Q,hb,hQ,hd,ha,h,hs,H=>by cases c<;>cases hb
 | R,r,.cn _ _ _,c,S,β,ρ,a,w,k,Q,hb,hQ,hd,ha,h,hs,H=>by cases c<;>cases hb
 | R,r,.ch _ _ _ _,c,S,β,ρ,a,w,k,Q,hb,hQ,hd,ha,h,hs,H=>by cases c<;>cases hb
 | R,r,.lp _ _ _ _ _,c,S,β,ρ,a,w,k,Q,hb,hQ,hd,ha,h,hs,H=>by cases c<;>cases hb
 | R,r,.jn _ _ _ _,c,S,β,ρ,a,w,k,Q,hb,hQ,hd,ha,h,hs,H=>by cases c<;>cases hb
end
end Gx

/- A range over a function. -/
namespace Gx
open Go Go.RowKit Gd
structure It where
 f:FuncId
 cs:List Ty
 u:Ty
 fn:Tup cs→Option (List u.De)
def Jp7(ok:Ok)(w:World):List DV→List Nat→Prop
 | [],[]=>True
 | v::l,b::bs=>(∃tid cs,w.heap[b]?=some (.cells cs.toArray tid (0,0))∧(rt v.1).rep ok w v.2 cs)∧Jp7 ok w l bs
 | _,_=>False
def Jcu(b:Nat):Value:=.pointer (some ⟨b,0,none⟩)
def okC(ok:Ok)(w A:World)(O:Nat→Prop)(bs:List Nat):Ok:=fun b o=>(ok b o∨w.heap.size≤b∨b∈bs)∧b<A.heap.size∧¬ O b
def Jp8(P:Program)(gl:List (Nat×Σ t:Ty,t.De))(it:It):Prop :=
 ∀(ok:Ok) (w:World) (bs:List Nat) (x:Tup it.cs) (es:List it.u.De),(∀b o,ok b o→b<w.heap.size)→Zj gl ok w→it.fn x=some es→Jp7 ok w (toL it.cs x) bs→bs.Nodup→(∀b∈bs,∀o,¬ ok b o) →
   ∀(l:Nat) (J:Nat→(Nat→Prop)→World→Prop) (W:World) (O0:Nat→Prop),Below w.heap.size w W→(∀k O A B,J k O A→Below A.heap.size A B→J k O B)→(∀k O A,J k O A→∀b,O b→b<A.heap.size∧(∀o,¬ ok b o)∧b∉bs) →
    (∀k O A e v,J k O A→es[k]?=some e→isV (rt it.u) (okC ok w A O bs) A e v→∀m,YieldAt Fence.wide m P l #[v] A fun r B=>r=.returned (.bool true) ∧
     ∃O',J (k+1) O' B∧(∀b,O' b→O b∨A.heap.size≤b)∧A.heap.size≤B.heap.size∧∀b,b<A.heap.size→¬ O b→B.heap[b]?=A.heap[b]?)→J 0 O0 W →
    ∀m,CallsIn Fence.wide m P it.f (#[.func (.yield l) #[] #[]]++(bs.map Jcu).toArray) W fun e B=>(∃v,e=.returned v)∧∃O,J es.length O B
def Q7h(M:List (Nat×Ob)):AV→Option (List (Nat×DV))
 | .nil=>some []
 | .cons (.p id []) r=>match Qk M id,Q7h M r with
  | some (.var _ (.d t x)),some l=>some ((id,⟨t,x⟩)::l)
  | _,_=>none
 | _=>none
def Qt8{σ α:Type}(f:σ→α→Option σ):List α→σ→Option σ
 | [],s=>some s
 | x::l,s=>(f s x).bind fun s'=>Qt8 f l s'
inductive AnR where
 | pre (a:An) (r:AnR)
 | inn (r:AnR) (b:An)
 | un (r:AnR)
 | rf (it:Nat) (ks ms:List Nat) (Γ:Shp) (a b:An)
def Qt9(ids:List Nat)(M:List (Nat×Ob)):List (Nat×Ob):=M.filter fun q=>!Yr ids q.1
section
variable (Y:TX) (K:List Con) (n N:Nat)
noncomputable def rdR(Γ:Shp){u:Ty}(S1:XS)(p:Nat)(aA aB:An)(A B:Code)(s:Γ.De)(e:u.De):Option Γ.De :=
 bif Gn (S1.re (enc Γ s)).flat.mem then
  Xy Y K n N aA A ((S1.re (enc Γ s)).put p [] (.d u e)) fun ex S2=>match ex with
   | .n=>bif Gn S2.flat.mem then(Xy Y K n N aB B S2 fun ex2 S3=>match ex2 with
    | .n=>S3.dec Γ
    | _=>none)else none
   | _=>none
 else none
def rfS(S:XS)(ids ks ms:List Nat):XS:=XS.ent { S with mem:=Qt9 ids S.mem } ks ms
noncomputable def Qob{R:Type}(its:List It):AnR→Code→XS→(Ex→XS→Option R)→Option R
 | .pre a r,.seq x y,S,k=>Xy Y K n N a x S fun e S'=>match e with
  | .n=>Qob its r y S' k
  | _=>none
 | .inn r b,.seq x y,S,k=>Qob its r x S fun e S'=>match e with
  | .n=>bif Gn S'.flat.mem then Xy Y K n N b y S' k else none
  | _=>none
 | .un r,.block _ c,S,k=>Qob its r c S fun e S'=>match e with
  | .n=>k .n S'
  | _=>none
 | .rf i ks ms Γ aA aB,.rangeFunc (.tmp g) ⟨[p]⟩ A B,S,k=>match its[i]?,S.ev [] (.tmp g)with
  | some it,some (.f gf caps)=>match Q7h S.mem caps with
   | some bl=>match ofL it.cs (bl.map Prod.snd)with
    | some x=>bif Nat.beq it.f gf&&(rb aA A&&rb aB B)&&((p::(K7 A++K7 B)).all fun d=>Qjf d (rfS S (bl.map Prod.fst) ks ms).fix)&&Jtt Γ.env&&okW n (rfS S (bl.map Prod.fst) ks ms) p&&Tz (bl.map Prod.fst) &&
       Gn (rfS S (bl.map Prod.fst) ks ms).flat.mem then
      (it.fn x).bind fun es=>match (rfS S (bl.map Prod.fst) ks ms).dec Γ with
       | some s0=>(Qt8 (rdR Y K n N Γ (u:=it.u) (rfS S (bl.map Prod.fst) ks ms) p aA aB A B) es s0).bind fun s=>k .n (XS.out { S with mem:=Qt9 (bl.map Prod.fst) S.mem } ks ms (enc Γ s))
       | none=>none else none
    | none=>none
   | none=>none
  | _,_=>none
 | _,_,_,_=>none
end
theorem Jis{α:Type}{R:α→α→Prop}(hs:∀a b,R a b→R b a):∀{l:List α},l.Pairwise R→∀x∈l,∀y∈l,x=y∨R x y
 | [],_,x,hx,_,_=>by cases hx
 | z::l,h,x,hx,y,hy=>by
  have h':=List.pairwise_cons.1 h;rcases QX.1 hx with h1 | h1
  ·grind
  ·rcases QX.1 hy with h2 | h2
   ·grind
   ·exact Jis hs h'.2 x h1 y h2
theorem Qef:∀{l:List (Nat×Ob)} {t:Nat} {o:Ob},Qk l t=some o→(t,o)∈l
 | q::l,t,o,h=>by
  simp only[Qk]at h;cases hb:Nat.beq q.1 t with
  | true =>
   rw[hb]at h;grind [Nat.eq_of_beq_eq_true]
  | false =>
   rw[hb]at h;exact .tail _ (Qef h)
section
variable {P:Program} {Y:TX} {X:Cx} {n N:Nat} {K:List Con} {β β':Nat→Nat} {ρ ρ':Nat→Value} {a a':Act} {w w':World} {S:XS}
theorem Rel.filterM{env:List En}{M F:List (Nat×Ob)}{ids:List Nat}(h:Rel X β ρ ⟨env,M++F⟩ a w):Rel X β ρ ⟨env,Qt9 ids M++F⟩ a w:=by
 have hsub:(Qq β ρ (Qt9 ids M++F)).Sublist (Qq β ρ (M++F)):=List.Sublist.map _ (List.Sublist.append_right List.filter_sublist _);exact Sb.remake h (fun t' ht'=>.inl ⟨t',hsub.subset ht',fun _ hg=>hg,fun _ _ hc=>hc,(h.own t' (hsub.subset ht')).1⟩) (h.dOO.sublist hsub)
theorem Q3z{ok:Ok}{M:List (Nat×Ob)}:∀{caps:AV} {vs:List Value} {bl:List (Nat×DV)},cr β ρ ok w true caps vs→Q7h M caps=some bl→vs=(bl.map fun q=>β q.1).map Jcu
 | .nil,vs,bl,h,hb=>by
  simp only[Q7h,Option.some.injEq]at hb;subst hb;exact h
 | .cons x r,vs,bl,h,hb=>by
  obtain⟨c1,us,rfl,h1,h2⟩:=h;unfold Q7h at hb;split at hb
  ·grind
  ·rename_i id r' e
   injection e with e1 e2
   subst e1; subst e2;split at hb
   ·rename_i tid t x l q1 q2
    simp only[Option.some.injEq]at hb;subst hb;have h1':c1=_:=h1;subst h1';rw[Q3z h2 q2];rfl
   ·cases hb
  ·cases hb
 | .d _ _,_,_,_,hb=>by cases hb
 | .p _ _,_,_,_,hb=>by cases hb
 | .e _ _,_,_,_,hb=>by cases hb
 | .s _,_,_,_,hb=>by cases hb
 | .m _,_,_,_,hb=>by cases hb
 | .b _,_,_,_,hb=>by cases hb
 | .w _ _ _,_,_,_,hb=>by cases hb
 | .a _ _,_,_,_,hb=>by cases hb
 | .z,_,_,_,hb=>by cases hb
 | .ns,_,_,_,hb=>by cases hb
 | .np,_,_,_,hb=>by cases hb
 | .nm,_,_,_,hb=>by cases hb
 | .nf,_,_,_,hb=>by cases hb
 | .f _ _,_,_,_,hb=>by cases hb
 | .ag _,_,_,_,hb=>by cases hb
 | .tp _,_,_,_,hb=>by cases hb
theorem Q30{M:List (Nat×Ob)}:∀{caps:AV} {bl:List (Nat×DV)},Q7h M caps=some bl→∀q∈bl,∃tid,Qk M q.1=some (.var tid (.d q.2.1 q.2.2))
 | .nil,bl,hb=>by
  grind [Q7h,Option.some.injEq]
 | .cons x r,bl,hb=>by
  unfold Q7h at hb;split at hb
  ·grind
  ·rename_i id r' e
   injection e with e1 e2
   subst e1; subst e2;split at hb
   ·rename_i tid t x l q1 q2
    simp only[Option.some.injEq]at hb;subst hb;intro q hq;rcases QX.1 hq with rfl | hq
    ·exact⟨tid,q1⟩
    ·exact Q30 q2 q hq
   ·cases hb
  ·cases hb
 | .d _ _,_,hb=>by cases hb
 | .p _ _,_,hb=>by cases hb
 | .e _ _,_,hb=>by cases hb
 | .s _,_,hb=>by cases hb
 | .m _,_,hb=>by cases hb
 | .b _,_,hb=>by cases hb
 | .w _ _ _,_,hb=>by cases hb
 | .a _ _,_,hb=>by cases hb
 | .z,_,hb=>by cases hb
 | .ns,_,hb=>by cases hb
 | .np,_,hb=>by cases hb
 | .nm,_,hb=>by cases hb
 | .nf,_,hb=>by cases hb
 | .f _ _,_,hb=>by cases hb
 | .ag _,_,hb=>by cases hb
 | .tp _,_,hb=>by cases hb
theorem Jls{ok:Ok}:∀{bl:List (Nat×DV)},(∀q∈bl,∃tid cs,w.heap[β q.1]?=some (.cells cs.toArray tid (0,0))∧(rt q.2.1).rep ok w q.2.2 cs)→Jp7 ok w (bl.map Prod.snd) (bl.map fun q=>β q.1)
 | [],_=>trivial
 | q::bl,h=>⟨h q (.head _),Jls fun x hx=>h x (.tail _ hx)⟩
theorem J79(hT:Jg P Y.T)(hmix:P.follows .mixedOrders=true)(hK:KsX P Y X K)(hX:X.n=n)(hr:X.res=[])(hpin:X.pin=none)(hdf:X.dfs=[]){it:It}(hit:Jp8 P Y.gl it)(hrun:Runs P it.f)
  {g p m:Nat} {A B:Code} {ks ms:List Nat} {Γ:Shp} {aA aB:An} {caps:AV} {bl:List (Nat×DV)} {x:Tup it.cs} {es:List it.u.De} {s0 sE:Γ.De} {Q:Exit→Act→World→Prop}
  (h:Rel X β ρ S.flat a w) (hg:S.ev [] (.tmp g)=some (.f it.f caps)) (hbl:Q7h S.mem caps=some bl) (hx:ofL it.cs (bl.map Prod.snd)=some x) (hbA:rb aA A=true) (hbB:rb aB B=true)
  (hoff:∀d∈p::(K7 A++K7 B),Qjf d (rfS S (bl.map Prod.fst) ks ms).fix=true) (hΓ:Γ.env=[]) (hp:okW n (rfS S (bl.map Prod.fst) ks ms) p=true) (hV:Gn (rfS S (bl.map Prod.fst) ks ms).flat.mem=true) (hndB:Tz (bl.map Prod.fst)=true)
  (hes:it.fn x=some es) (hs0:(rfS S (bl.map Prod.fst) ks ms).dec Γ=some s0) (hfold:Qt8 (rdR Y K n N Γ (u:=it.u) (rfS S (bl.map Prod.fst) ks ms) p aA aB A B) es s0=some sE)
  (H:∀(β':Nat→Nat) (ρ':Nat→Value) (w':World) (D:Nat),agP S.prot β β' ρ ρ'→Rel { X with dfs:=[⟨.collected D,#[]⟩] } β' ρ' (XS.out { S with mem:=Qt9 (bl.map Prod.fst) S.mem } ks ms (enc Γ sE)).flat { a with defers:=[⟨.collected D,#[]⟩] } w' →
   w'.heap[D]?=some (.deferred (some []))→X.w.heap.size≤D→Q .normal { a with defers:=[⟨.collected D,#[]⟩] } w') :
  (Code.rangeFunc (.tmp g) ⟨[p]⟩ A B).wpIn Fence.wide m P Q a w:=by
 obtain⟨S1,hS1⟩:∃S1,S1=rfS S (bl.map Prod.fst) ks ms:=⟨_,rfl⟩
 rw[←hS1]at hoff hp hV hs0 hfold;have hflat0:Rel X β ρ (XS.flat { S with mem:=Qt9 (bl.map Prod.fst) S.mem }) a w:=Rel.filterM (M:=S.mem) (F:=S.fixM) h;have h1:Rel X β ρ S1.flat a w:=by rw[hS1]; exact hflat0.ent ks ms
 have hpm:S1.flat.mem.Perm (Qt9 (bl.map Prod.fst) S.mem++S.fixM):=by
  rw[hS1];simp only[XS.flat,rfS,XS.ent];rw[←List.append_assoc];exact(JY.trans (Xj ms _)).append_right _
 have hprot:S1.prot=S.prot:=by rw[hS1]; rfl
 have hsubM:∀q∈S1.flat.mem,q∈S.flat.mem∧(q∈Qt9 (bl.map Prod.fst) S.mem∨q∈S.fixM):=fun q hq=>by
  rcases QZ.1 (hpm.subset hq)with hq | hq
  ·exact⟨List.mem_append_left _ (QB.1 hq).1,.inl hq⟩
  ·exact⟨List.mem_append_right _ hq,.inr hq⟩
 obtain⟨cs,hev,us,hus,hcaps⟩:=h.ev (Qi a) hg;have hev':a.eval (.tmp g)=.func (.func it.f) #[] us.toArray:=by rw[hev,hus]; rfl
 have husv:=Q3z hcaps hbl;have hlook:=Q30 hbl
 have hokW:∀b o,okR X β ρ S.flat.mem w b o→okR X β ρ S1.flat.mem w b o:=fun b o ⟨q1,q2,q3,q4⟩=>⟨q1,q2,q3,fun t ht=>by
  grind⟩
 have hbox:Jp7 (okR X β ρ S.flat.mem w) w (bl.map Prod.snd) (bl.map fun q=>β q.1):=Jls fun q hq=>by
  obtain⟨tid,hl⟩:=hlook q hq;obtain⟨⟨cs,c1,c2⟩,_⟩:=h.ob (Jd hl:Qk S.flat.mem q.1=_);exact⟨tid,cs,c1,c2⟩
 have hbs:∀b∈bl.map (fun q=>β q.1),b<w.heap.size∧b∉Im w.heap.size (Qq β ρ S1.flat.mem):=fun b hb=>by
  obtain⟨q,hq,rfl⟩:=QK.1 hb;obtain⟨tid,hl⟩:=hlook q hq;obtain⟨⟨cs,c1,c2⟩,_⟩:=h.ob (Jd hl:Qk S.flat.mem q.1=_);refine⟨Uc c1,fun hbl2=>?_⟩;obtain⟨_,t,ht,htb⟩:=Xc.1 hbl2;obtain⟨z,hz,rfl⟩:=QK.1 ht;obtain⟨hz1,hz2⟩:=hsubM z hz;have hpw:S.flat.mem.Pairwise fun s t=>∀g,(Jb β ρ s.1 s.2).blks g→¬ (Jb β ρ t.1 t.2).blks g:=JL.1 h.dOO;have hm:=Qef hl;rcases Jis (fun a b hab g hg hg2=>hab g hg2 hg) hpw z hz1 (q.1,.var tid (.d q.2.1 q.2.2)) (List.mem_append_left _ hm)with e | e
  ·subst e
   rcases hz2 with hz2 | hz2
   ·have:=(QB.1 hz2).2
    rw[show Yr (bl.map Prod.fst) q.1=true from Qqe (QK.2 ⟨q,hq,rfl⟩)]at this;cases this
   ·
    have hpw2:=QA.1 hpw;exact hpw2.2.2 _ hm _ hz2 (β q.1) rfl rfl
  ·exact e (β q.1) htb rfl
 have hoklt:∀b o,okR X β ρ S.flat.mem w b o→b<w.heap.size:=fun b o hbo=>hbo.2.1;have hxl:=Q63 hx;have hpw0:S.flat.mem.Pairwise fun s t=>∀g,(Jb β ρ s.1 s.2).blks g→¬ (Jb β ρ t.1 t.2).blks g:=JL.1 h.dOO
 have hnd:(bl.map fun q=>β q.1).Nodup:=by
  have key:∀(l:List (Nat×DV)),(∀q∈l,q∈bl)→Tz (l.map Prod.fst)=true→(l.map fun q=>β q.1).Nodup:=by
   intro l
   induction l with
   | nil=>grind
   | cons q l ih =>
    intro hs hn;simp only[JQ,Tz,QQ,JP]at hn;refine List.pairwise_cons.2 ⟨fun b hb e=>?_,ih (fun z hz=>hs z (.tail _ hz)) hn.2⟩;obtain⟨z,hz,hzb⟩:=QK.1 hb;obtain⟨t1,l1⟩:=hlook q (hs q (.head _));obtain⟨t2,l2⟩:=hlook z (hs z (.tail _ hz));rcases Jis (fun a b hab g hg hg2=>hab g hg2 hg) hpw0 _ (List.mem_append_left _ (Qef l1)) _ (List.mem_append_left _ (Qef l2))with e2 | e2
    ·have e3:q.1=z.1:=by injection e2
     have:Yr (l.map Prod.fst) q.1=true:=Qqe (QK.2 ⟨z,hz,e3.symm⟩);rw[hn.1]at this; cases this
    ·exact e2 (β q.1) rfl (e.trans hzb.symm)
  grind
 have hbno:∀b∈bl.map (fun q=>β q.1),∀o,¬ okR X β ρ S.flat.mem w b o:=fun b hb o hbo=>by
  obtain⟨q,hq,rfl⟩:=QK.1 hb;obtain⟨tid,hl⟩:=hlook q hq;exact hbo.2.2.2 _ (QK.2 ⟨_,List.mem_append_left _ (Qef hl),rfl⟩) rfl
 have hbok:∀b∈bl.map (fun q=>β q.1),∀o,okR X β ρ S1.flat.mem w b o:=fun b hb o=>by
  have hb':=hb;obtain⟨q,hq,rfl⟩:=QK.1 hb;obtain⟨tid,hl⟩:=hlook q hq;obtain⟨_,hmine⟩:=h.ob (Jd hl:Qk S.flat.mem q.1=_);exact⟨X.mine_ok (hmine _ rfl) o,(hbs _ hb').1,by simp,fun t ht hc=>(hbs _ hb').2 (Xc.2 ⟨(hbs _ hb').1,t,ht,t.cb hc⟩)⟩
 have hGw:Zj Y.gl (okR X β ρ S.flat.mem w) w:=Qd9 h hK.2;have hcall:=hit _ w _ x es hoklt hGw hes (by rw[hxl]; exact hbox) hnd hbno;obtain⟨hR',hG'⟩:=Q7d hK.2 h1 hV;obtain⟨X',hX'⟩:∃X',X'=reX X β ρ S1.flat.mem w:=⟨_,rfl⟩
 rw[←hX']at hR' hG';have hXn:X'.n=n:=by rw[hX']; exact hX
 have hXr:X'.res=[]:=by rw[hX']; rfl
 have hXp:X'.pin=none:=by rw[hX']; rfl
 have hXd:X'.dfs=[]:=by rw[hX']; exact hdf
 have hXw:X'.w=w:=by rw[hX']; rfl
 have hXl:X'.lent=Im w.heap.size (Qq β ρ S1.flat.mem):=by rw[hX']; rfl
 have hK':KsX P Y X' K:=⟨hK.1,hG'⟩
 obtain⟨β0,ρ0,hag0,hR0⟩:=Qcx (S0:=S1) hR' ⟨rfl,rfl,rfl⟩ hs0;obtain⟨f,hf⟩:∃f,f=rdR Y K n N Γ (u:=it.u) S1 p aA aB A B:=⟨_,rfl⟩
 rw[←hf]at hfold;have hadf:a.defers=[]:=h.df.trans hdf;refine wpIn_rangeFunc fun fn hfn=>?_;obtain⟨rec,hrec⟩:∃rec:LoopState→Option Code→Loop,rec=fun st pe=>{ state:=st,pending:=pe,fn,tmps:=a.tmps,params:=⟨[p]⟩,assign:=A,body:=B,defers:=w.heap.size }:=⟨_,rfl⟩
 obtain⟨W1,hW1⟩:∃W1,(w.alloc (.deferred (some []))).alloc (.loop (rec .ready none))=W1:=⟨_,rfl⟩
 have hL1:W1.heap[w.heap.size+1]?=some (.loop (rec .ready none)):=by
  rw[←hW1]; have:=World.alloc_heap_new (w.alloc (.deferred (some []))) (.loop (rec .ready none)); rwa[World.size_alloc]at this
 have hD1:W1.heap[w.heap.size]?=some (.deferred (some [])):=by
  rw[←hW1]; exact(Below.heap_alloc _ _ _ (by simp)).trans (World.alloc_heap_new w _)
 have hb1:Below w.heap.size w W1:=by
  rw[←hW1]; exact(((Below.refl _ w).alloc (QY _) _).alloc (by simp) _)
 obtain⟨J,hJ⟩:∃J:Nat→(Nat→Prop)→World→Prop,J=fun k O W=>∃s β' ρ',Qt8 f (es.drop k) s=some sE∧agP S1.prot β β' ρ ρ'∧Rel X' β' ρ' (S1.re (enc Γ s)).flat a W ∧
  W.heap[w.heap.size+1]?=some (.loop (rec .ready none))∧W.heap[w.heap.size]?=some (.deferred (some []))∧O=fun b=>∃t∈Qq β' ρ' (S1.re (enc Γ s)).flat.mem,t.blks b:=⟨_,rfl⟩
 refine⟨w.heap.size+1,[{ target:=.collected w.heap.size,args:=#[] }],W1,{ target:=.fn (.func it.f) us.toArray,args:=#[.func (.yield (w.heap.size+1)) #[] #[]] },W1,it.f,
  #[.func (.yield (w.heap.size+1)) #[] #[]]++us.toArray,W1,?_,?_,fun _ _=>trivial,?_,(fun h=>by cases h),?_⟩
 ·rw[←hW1,hrec]; simp[run_enterLoop_outer]
 ·simp only[resolve,hev']
  simp[go_sem]
 ·grind [invoke,Qpk]
 have hown:∀k O A,J k O A→∀b,O b→b<A.heap.size∧(∀o,¬ okR X β ρ S.flat.mem w b o)∧b∉bl.map (fun q=>β q.1):=fun k O A hJk b hOb=>by
  rw[hJ]at hJk;obtain⟨s,β',ρ',_,_,hRk,_,_,rfl⟩:=hJk;obtain⟨t,ht,htb⟩:=hOb;have hm:=(hRk.own t ht).2 b htb;refine⟨hRk.olt ht htb,fun o hbo=>?_,fun hb=>?_⟩
  ·rcases hm with q | q
   ·rw[hXw]at q; have:=hbo.2.1; omega
   ·rw[hXl]at q
    obtain⟨_,t2,ht2,htb2⟩:=Xc.1 q;obtain⟨z,hz,rfl⟩:=QK.1 ht2;have hcv:=J6d hV _ ht2 b o htb2;exact hbo.2.2.2 _ (QK.2 ⟨z,(hsubM z hz).1,rfl⟩) hcv
  ·rcases hm with q | q
   ·rw[hXw]at q; have:=(hbs b hb).1; omega
   grind
 have hcall1:=hcall (w.heap.size+1) J W1 (fun b=>∃t∈Qq β0 ρ0 (S1.re (enc Γ s0)).flat.mem,t.blks b) hb1 (fun k O A' B' hA hAB=>by
  rw[hJ]at hA ⊢;obtain⟨s,β',ρ',j1,j2,j3,j4,j5,j6⟩:=hA
  exact⟨s,β',ρ',j1,j2,Sb.below j3 hAB,(hAB.block _ (Uc j4)).trans j4,(hAB.block _ (Uc j5)).trans j5,j6⟩) hown ?round (by
  rw[hJ]
  exact⟨s0,β0,ρ0,hfold,hag0,Sb.below hR0 hb1,hL1,hD1,rfl⟩) (m - 1)
 case round =>
  intro k O W e v hJk he hv m1;rw[hJ]at hJk;obtain⟨s,β',ρ',j1,j2,j3,j4,j5,hO⟩:=hJk;have hkl:k<es.length:=(List.getElem?_eq_some_iff.1 he).1;rw[List.drop_eq_getElem_cons hkl]at j1;have hek:es[k]=e:=by rw[List.getElem?_eq_getElem hkl]at he; grind
  rw[hek]at j1;obtain⟨s',hs',j1'⟩:=Y0 j1;have hs'0:=hs';rw[hf]at hs';unfold rdR at hs';obtain⟨hV1,hs'⟩:=bvT hs';have hy:=run_yield (P:=P) (args:=#[v]) j4 (by rw[hrec]; rfl);rw[hrec]at hy;refine⟨fn,_,A,B,hy,roundIn_of_wpIn hfn ?_⟩
  have hact:({ tmps:=((⟨[p]⟩:Array Tmp).zip #[v]).foldl (fun tmps (t,a)=>tmps.setIfInBounds t a) a.tmps,defers:=[] }:Act)=a.put (some p) v:=by
   simp[Act.put,←hadf]
  rw[hact];obtain⟨hpd,hpo⟩:=Ue (S:=S1.re (enc Γ s)) hp hXn hXr
  have hval:isV (rt it.u) (okR X' β' ρ' (S1.re (enc Γ s)).flat.mem W) W e v:=by
   refine hv.weak fun b o hbo=>?_;refine⟨?_,hbo.2.1,by simp,fun t ht hc=>hbo.2.2 (by rw[hO]; exact⟨t,ht,t.cb hc⟩)⟩;rcases hbo.1 with q | q | q
   ·exact .inl (by rw[hX']; exact .inl (hokW b o q))
   ·grind
   ·exact .inl (by rw[hX']; exact .inl (hbok b q o))
  obtain⟨c,hc1,hc2⟩:=Qlr hval
  have hput:Rel X' β' ρ' ((S1.re (enc Γ s)).put p [] (.d it.u e)).flat (a.put (some p) v) W:=by
   rw[Hb hpo,hc2];exact j3.put0 hpd hc1
  have hVp:Gn ((S1.re (enc Γ s)).put p [] (.d it.u e)).flat.mem=true:=hV1;obtain⟨hR2,hG2⟩:=Q7d hG' hput hVp;have hl4:W.heap.size>w.heap.size+1:=Uc j4
  have hnoL:∀{X0:Cx} {β1:Nat→Nat} {ρ1:Nat→Value} {S2:St} {a2:Act} {W2:World},Rel X0 β1 ρ1 S2 a2 W2→(∀r,W2.heap[w.heap.size+1]?=some (.loop r)→w.heap.size+1∉Im W2.heap.size (Qq β1 ρ1 S2.mem))∧(∀r,W2.heap[w.heap.size]?=some (.deferred r)→w.heap.size∉Im W2.heap.size (Qq β1 ρ1 S2.mem)):=by
   intro X0 β1 ρ1 S2 a2 W2 hR;refine⟨fun r hl hm=>?_,fun r hl hm=>?_⟩
   ·obtain⟨_,t,ht,htb⟩:=Xc.1 hm
    exact hR.notOwn hl rfl (fun _ _=>by simp) t ht htb
   ·obtain⟨_,t,ht,htb⟩:=Xc.1 hm
    exact hR.notOwn hl rfl (fun _ _=>by simp) t ht htb
  have hsame0:Rn (p::(K7 A++K7 B)) a (a.put (some p) v):=Rn.put (fun t _=>rfl) (fun d hd=>by grind) v;refine Qb3 (X:=reX X' β' ρ' ((S1.re (enc Γ s)).put p [] (.d it.u e)).flat.mem W) (ds:=p::(K7 A++K7 B)) (a0:=a) hT hmix ⟨hK.1,hG2⟩ hXn rfl rfl aA hbA (by rintro⟨_,_,hh⟩; exact hh) (fun d hd=>.tail _ (List.mem_append_left _ hd)) hsame0 hR2 hs' fun ex β2 ρ2 S2 a2 W2 q1 q2 q3 q4=>?_;cases ex with
  | x i=>cases q1
  | r=>cases q1
  | n =>
   simp only at q1;obtain⟨hV2,q1⟩:=bvT q1;have hl2:W2.heap[w.heap.size+1]?=some (.loop (rec .ready none)):=(q3.bel.block _ hl4 ((hnoL hput).1 _ j4)).trans j4;have hd2:W2.heap[w.heap.size]?=some (.deferred (some [])):=(q3.bel.block _ (by show w.heap.size<W.heap.size; omega) ((hnoL hput).2 _ j5)).trans j5;have q3':=Q7e hput hVp hXr hXp q3;refine⟨_,run_beginRound hl2 (by rw[hrec]),?_⟩;have q5:Rel X' β2 ρ2 S2.flat a2 (W2.putObj (w.heap.size+1) (.loop { rec .ready none with state:=.busy })):=q3'.turn (by rw[hXw]; omega) hl2 rfl (fun _ _=>by simp) rfl;have hl3:(W2.putObj (w.heap.size+1) (.loop { rec .ready none with state:=.busy })).heap[w.heap.size+1]?=some (.loop { rec .ready none with state:=.busy }):=World.putObj_heap_same (Uc hl2);have hd3:(W2.putObj (w.heap.size+1) (.loop { rec .ready none with state:=.busy })).heap[w.heap.size]?=some (.deferred (some [])):=(World.putObj_heap_other (by omega)).trans hd2;obtain⟨W3,hW3⟩:∃W3,W3=W2.putObj (w.heap.size+1) (.loop { rec .ready none with state:=.busy }):=⟨_,rfl⟩
   rw[←hW3]at q5 hl3 hd3 ⊢;obtain⟨hR3,hG3⟩:=Q7d hG' q5 hV2;refine Qb3 (X:=reX X' β2 ρ2 S2.flat.mem W3) (ds:=p::(K7 A++K7 B)) (a0:=a) hT hmix ⟨hK.1,hG3⟩ hXn rfl rfl aB hbB (by rintro⟨_,_,hh⟩; exact hh) (fun d hd=>.tail _ (List.mem_append_right _ hd)) q4 hR3 q1 fun ex β3 ρ3 S3 a3 W4 r1 r2 r3 r4=>?_;cases ex with
   | x i=>cases r1
   | r=>cases r1
   | n =>
    simp only at r1;have hl4':W4.heap[w.heap.size+1]?=some (.loop { rec .ready none with state:=.busy }):=(r3.bel.block _ (Uc hl3) ((hnoL q5).1 _ hl3)).trans hl3;have hd4:W4.heap[w.heap.size]?=some (.deferred (some [])):=(r3.bel.block _ (Uc hd3) ((hnoL q5).2 _ hd3)).trans hd3;have hk3:S3.fix=S1.fix∧S3.fixM=S1.fixM∧S3.prot=S1.prot:=⟨r2.fix.trans q2.fix,r2.fixM.trans q2.fixM,r2.prot.trans q2.prot⟩
    obtain⟨β4,ρ4,hag4,hR40⟩:=Qcx (S0:=S1) r3 hk3 r1;have hR4:=Q7e q5 hV2 hXr hXp hR40
    have hR5:Rel X' β4 ρ4 (S1.re (enc Γ s')).flat a W4:=by
     have henv:(S1.re (enc Γ s')).flat.env=S1.fix:=by
      grind [enc,T8,toL,XS.flat,XS.re]
     have hsz:a.tmps.size=a3.tmps.size:=j3.sz.trans hR4.sz.symm;refine Rel.act (S:=(S1.re (enc Γ s')).flat) (env':=(S1.re (enc Γ s')).flat.env) hR4 hsz (by rw[hadf,hR4.df,hXd]) (by rw[hXr]; simp) fun e0 he0=>?_;have hen:=hR4.en he0;rw[henv]at he0;have hsm:∀t,t∉p::(K7 A++K7 B)→a.tmps[t]?=a3.tmps[t]?:=fun t ht=>(r4 t ht).symm;have hoffd:e0.t∉p::(K7 A++K7 B)∧∀c∈e0.cs,c.1∉p::(K7 A++K7 B):=⟨fun hm=>(Qjh (hoff _ hm) e0 he0).1 rfl,fun c hc hm=>(Qjh (hoff _ hm) e0 he0).2 c hc rfl⟩
     have hcc:J6 a e0.cs↔J6 a3 e0.cs:=⟨fun hc c hm=>by rw[←hsm _ (hoffd.2 c hm)]; exact hc c hm,fun hc c hm=>by rw[hsm _ (hoffd.2 c hm)]; exact hc c hm⟩
     have hrd:rd a e0.t=rd a3 e0.t:=by grind [rd]
     refine⟨fun hc=>?_,?_⟩
     ·obtain⟨cs,z1,z2⟩:=hen.1 (hcc.1 hc)
      grind
     ·rw[hcc,hrd]; exact hen.2
    refine⟨_,_,run_endRound none hl4',rfl,?_⟩;have hre:({ ({ rec .ready none with state:=.busy }:Loop)with state:=if(none:Option Code).isNone then .ready else .done,pending:=none }:Loop)=rec .ready none:=by rw[hrec]; rfl
    rw[hre];have ag2:agP S1.prot β' β2 ρ' ρ2:=q2.ag;have ag3:agP S1.prot β2 β3 ρ2 ρ3:=by have:=r2.ag; rw[show S2.prot=S1.prot from q2.prot]at this; exact this
    have own2:∀b,b∈Im W3.heap.size (Qq β2 ρ2 S2.flat.mem)→O b∨W.heap.size≤b:=fun b hb=>by
     obtain⟨_,t,ht,htb⟩:=Xc.1 hb;rcases(q3.own t ht).2 b htb with z | z
     ·exact .inr z
     ·obtain⟨_,t2,ht2,htb2⟩:=Xc.1 z
      exact .inl (by rw[hO]; exact⟨t2,ht2,htb2⟩)
    have hsz2:W.heap.size≤W2.heap.size:=q3.bel.size;have hsz3:W.heap.size≤W3.heap.size:=by rw[hW3,World.putObj_size]; exact hsz2
    have keep:∀b,b<W.heap.size→¬ O b→b≠w.heap.size+1→W4.heap[b]?=W.heap[b]?:=fun b hb hOb hbl=>by
     have e1:W4.heap[b]?=W3.heap[b]?:=r3.bel.block b (show b<W3.heap.size by omega) fun hm=>by
      rcases own2 b hm with z | z
      ·exact hOb z
      ·omega
     have e2:W3.heap[b]?=W2.heap[b]?:=by rw[hW3]; exact World.putObj_heap_other hbl
     have e3:W2.heap[b]?=W.heap[b]?:=q3.bel.block b hb fun hm=>by
      obtain⟨_,t2,ht2,htb2⟩:=Xc.1 hm;exact hOb (by rw[hO]; exact⟨t2,ht2,htb2⟩)
     rw[e1,e2,e3]
    refine⟨fun b=>∃t∈Qq β4 ρ4 (S1.re (enc Γ s')).flat.mem,t.blks b,by
     rw[hJ]
     exact⟨s',β4,ρ4,j1',((j2.trans ag2).trans ag3).trans hag4,hR5.turn (by rw[hXw]; omega) hl4' rfl (fun _ _=>by simp) rfl,World.putObj_heap_same (Uc hl4'),(World.putObj_heap_other (by omega)).trans hd4,rfl⟩,fun b hb=>?_,?_,fun b hb hOb=>?_⟩
    ·obtain⟨t,ht,htb⟩:=hb
     rcases(hR40.own t ht).2 b htb with z | z
     ·exact .inr (Nat.le_trans hsz3 z)
     ·exact own2 b z
    ·have:=r3.bel.size
     simp only[World.putObj_size];exact Nat.le_trans hsz3 this
    grind [World.putObj_heap_same,Uc,World.putObj_heap_other]
 rw[husv];refine hcall1.mono ?_;rintro e W2 ⟨⟨v,rfl⟩,O,hJe⟩;rw[hJ]at hJe;obtain⟨s,β',ρ',j1,j2,j3,j4,j5,_⟩:=hJe;rw[XM]at j1;have hsE:s=sE:=Option.some.inj j1;subst hsE;refine⟨none,_,by have:=run_endLoop (P:=P) j4 (by rw[hrec]; simp); rw[hrec]at this; exact this,?_⟩;have j6:=j3.turn (o':=.loop { rec .ready none with state:=.exhausted }) (by rw[hXw]; omega) j4 rfl (fun _ _=>by simp) rfl;rw[hX']at j6;have j7:=Q7e h1 hV hr hpin j6;have j8:=j7.withD [⟨.collected w.heap.size,#[]⟩];have e1:([{ target:=.collected w.heap.size,args:=#[] }]++a.defers:List Deferred)=[⟨.collected w.heap.size,#[]⟩]:=by rw[hadf]; rfl
 rw[e1];rw[hrec]at j8;refine H β' ρ' _ w.heap.size (by rw[←hprot]; exact j2) ?_ ((World.putObj_heap_other (by omega)).trans j5) h.bel.size;rw[Qjk];rw[hS1]at j8;exact j8
end
end Gx

/- Functions with a range over a function. -/
namespace Gx
open Go Go.RowKit Gd
section
variable {P:Program} {Y:TX} {X:Cx} {n N:Nat} {K:List Con}
def Jlt(X:Cx)(D:Nat):Cx:={ X with dfs:=[⟨.collected D,#[]⟩] }
theorem Qwh(hT:Jg P Y.T)(hmix:P.follows .mixedOrders=true)(hK:KsX P Y X K)(hX:X.n=n)(hr:X.res=[])(hpin:X.pin=none)(hdf:X.dfs=[]){its:List It}(hits:∀it∈its,Jp8 P Y.gl it∧Runs P it.f){m:Nat} :
  ∀{R:Type} {r:R} (an:AnR) {c:Code} {S:XS} {β:Nat→Nat} {ρ:Nat→Value} {a:Act} {w:World} {k:Ex→XS→Option R} {Q:Exit→Act→World→Prop},
  Rel X β ρ S.flat a w→Qob Y K n N its an c S k=some r →
  (∀(D:Nat) (e:Ex) (β':Nat→Nat) (ρ':Nat→Value) (S':XS) (a':Act) (w':World),k e S'=some r→Vv S S' β β' ρ ρ'→Rel (Jlt X D) β' ρ' S'.flat a' w'→w'.heap[D]?=some (.deferred (some []))→X.w.heap.size≤D→Q e.exit a' w')→c.wpIn Fence.wide m P Q a w
 | R,r,.pre an rn,c,S,β,ρ,a,w,k,Q,h,hs,H=>by
  cases c<;>simp only[Qob]at hs<;>first | (cases hs; done) | skip
  rename_i x y;refine wpIn_seq (wpIn_wide.2 (Wc hT hmix hK hX hr hpin an h hs fun e β' ρ' S' a' w' h1 h2 h3=>?_));cases e with
  | n=>exact Qwh hT hmix hK hX hr hpin hdf hits rn h3 h1 fun D e β2 ρ2 S2 a2 w2 q1 q2 q3 q4 q5=>H D e β2 ρ2 S2 a2 w2 q1 (h2.trans q2) q3 q4 q5
  | x i=>cases h1
  | r=>cases h1
 | R,r,.inn rn an,c,S,β,ρ,a,w,k,Q,h,hs,H=>by
  cases c<;>simp only[Qob]at hs<;>first | (cases hs; done) | skip
  rename_i x y;refine wpIn_seq (Qwh hT hmix hK hX hr hpin hdf hits rn h hs fun D e β' ρ' S' a' w' h1 h2 h3 h4 h5=>?_);cases e with
  | x i=>cases h1
  | r=>cases h1
  | n =>
   obtain⟨hV,h1⟩:=bvT h1;have hG1:Zj Y.gl (okN (Jlt X D)) (Jlt X D).w:=hK.2;obtain⟨hR2,hG2⟩:=Q7d hG1 h3 hV
   have hnl:D∉Im w'.heap.size (Qq β' ρ' S'.flat.mem):=fun hm=>by
    obtain⟨_,t,ht,htb⟩:=Xc.1 hm;exact h3.notOwn h4 rfl (fun _ _=>by simp) t ht htb
   show y.wpIn Fence.wide m P Q a' w';refine wpIn_wide.2 (Wc (X:=reX (Jlt X D) β' ρ' S'.flat.mem w') hT hmix ⟨hK.1,hG2⟩ hX rfl rfl an hR2 h1 fun e β2 ρ2 S2 a2 w2 q1 q2 q3=>?_);exact H D e β2 ρ2 S2 a2 w2 q1 (h2.trans q2) (Q7e h3 hV hr hpin q3) ((q3.bel.block D (Uc h4) hnl).trans h4) h5
 | R,r,.un rn,c,S,β,ρ,a,w,k,Q,h,hs,H=>by
  cases c<;>simp only[Qob]at hs<;>first | (cases hs; done) | skip
  rename_i id c1;refine wpIn_block (Qwh hT hmix hK hX hr hpin hdf hits rn h hs fun D e β' ρ' S' a' w' h1 h2 h3 h4 h5=>?_);cases e with
  | x i=>cases h1
  | r=>cases h1
  | n=>exact H D .n β' ρ' S' a' w' h1 h2 h3 h4 h5
 | R,r,.rf i ks ms Γ aA aB,c,S,β,ρ,a,w,k,Q,h,hs,H=>by
  cases c<;>first | (simp only[Qob]at hs; cases hs; done) | skip
  rename_i g ps A B;obtain⟨ps⟩:=ps
  match g,ps,hs with
  | .tmp g,[p],hs =>
   simp only[Qob]at hs;split at hs
   ·rename_i it gf caps hit hg
    split at hs
    ·rename_i bl hbl
     split at hs
     ·rename_i x hx
      obtain⟨hb,hs2⟩:=bvT hs;simp only[QQ]at hb;obtain⟨⟨⟨⟨⟨⟨b1,b2,b3⟩,b4⟩,b5⟩,b6⟩,b8⟩,b7⟩:=hb;have hfe:=Nat.eq_of_beq_eq_true b1;subst hfe;obtain⟨es,hes,hs3⟩:=Y0 hs2;split at hs3
      ·rename_i s0 hs0
       obtain⟨sE,hfold,hk⟩:=Y0 hs3
       have hΓ:Γ.env=[]:=by
        cases hE:Γ.env with
        | nil=>rfl
        | cons q l=>rw[hE]at b5; cases b5
       obtain⟨hi1,hi2⟩:=hits it (List.mem_of_getElem? hit);exact J79 hT hmix hK hX hr hpin hdf hi1 hi2 h hg hbl hx b2 b3 (fun d hd=>QR.1 b4 d hd) hΓ b6 b7 b8 hes hs0 hfold fun β' ρ' w' D q1 q2 q3 q4=>H D .n β' ρ' _ _ w' hk ⟨rfl,rfl,rfl,q1⟩ q2 q3 q4
      ·cases hs3
     ·cases hs
    ·cases hs
   ·cases hs
  | .tmp g,[],hs=>simp[Qob]at hs
  | .tmp g,_::_::_,hs=>simp[Qob]at hs
  | .const _,_,hs=>simp[Qob]at hs
  | .global _,_,hs=>simp[Qob]at hs
  | .func _,_,hs=>simp[Qob]at hs
noncomputable def Jup(Y:TX)(K:List Con)(N:Nat)(its:List It)(fn:Func)(an:AnR)(ro:List Nat)(Γ:Shp)(Δ:List Shp)(x:Γ.De):Option (Qia Δ):=match fn.body with
 | some c=>bif Nat.ble Γ.env.length fn.ntmps&&(T1 Γ.env 0&&Nat.blt Γ.env.length 100000)then Qob Y K fn.ntmps N its an c ⟨(enc Γ x).env,Qp8 Y.gl,wrM ro (enc Γ x).mem,rdM ro (enc Γ x).mem,Γ.mem.map Prod.fst⟩ fun e S=>match e with
  | .x _=>none
  | .n=>fin Y fn Δ S
  | .r=>fin Y fn Δ S else none
 | none=>none
theorem Jp9{f:FuncId}{fn:Func}{c:Code}{vs:List Value}{R:Value→World→Prop}{ok:Ok}{n m:Nat}{L:List Nat}{O:List TL}{w:World}(hok:∀b o,ok b o→b<w.heap.size)
  (hf:P.funcs[f]?=some fn) (hb:fn.body=some c) (hn:fn.ntmps=n) (hle:Nat.ble vs.length n=true) (hO:Qtu O L ok w)
  (h:∀a,Sb (fun _=>0) (cxL L n ok w) (Ja3 vs 0) [] [] O a w→c.wpIn Fence.wide m P (bodyPostM Fence.wide m P fn (Q6k L w R)) a w):Calls P f ⟨vs⟩ w (Q6k L w R):=by
 refine callsIn_wide.1 (callsIn_of_wp_marks (n:=m) hf hb trivial (h _ ?_));have hle':=QV hle;have hk:∀b o,ok b o→Jr (okL L ok) w.heap.size (fun _=>0) [] O w b o:=fun b o hbo=>⟨.inl (.inl hbo),hok b o hbo,by simp,fun t ht hc=>(hO.1 t ht).2.2 b o (t.cb hc) hbo⟩
 refine { sz:=by grind,df:=rfl,fr:=by simp,pn:=by simp,tm:=?_,bel:=Ki.refl _ _ _,dat:=trivial,obj:=by simp,own:=fun t ht=>⟨t.weak (hO.1 t ht).1 hk,fun g hg=>.inr ((hO.1 t ht).2.1 g hg)⟩,dHH:=by simp,dHO:=by simp,dOO:=hO.2.1 };intro p hp;obtain⟨j,v,rfl,hv⟩:=Ja4 hp;have hj:=(List.getElem?_eq_some_iff.1 hv).1;simp_all [QW,R4,XZ]
theorem Juq(hT:Jg P Y.T)(hmix:P.follows .mixedOrders=true)(hK:Jcl P Y.gl K){its:List It}(hits:∀it∈its,Jp8 P Y.gl it∧Runs P it.f){f:FuncId}{fn:Func}(hf:P.funcs[f]?=some fn){an:AnR}{c:Con}(hcf:c.f=f)(hrun:∀x,c.fn x=Jup Y K N its fn an c.ro c.Γ c.Δ x):Qne P Y.gl c:=by
 intro ok w L β ρ x y vs hok hG hlen hL hargs hy;rw[hrun]at hy;unfold Jup at hy;split at hy
 ·rename_i code hb
  obtain⟨hc,hy⟩:=bvT hy;simp only[QQ]at hc;rw[hcf];refine Jp9 (n:=fn.ntmps) (m:=1) (L:=L) (O:=Qq β ρ (enc c.Γ x).mem) hok hf hb rfl (by rw[hlen]; exact hc.1) hL fun a h0=>?_;have hR:=Jlo (Y:=Y) (fn:=fn) hc.2.1 hc.2.2 hok hG hL hargs h0;have hGX:Zj Y.gl (okN (cxL L fn.ntmps ok w)) w:=hG.weak fun b o hbo=>⟨.inl hbo,fun hbl=>hL.2.2 b hbl |>.elim fun t ht=>(hL.1 t ht.1).2.2 b o ht.2 hbo,hok b o hbo⟩
  refine Qwh (X:=cxL L fn.ntmps ok w) hT hmix ⟨hK,hGX⟩ rfl rfl rfl rfl hits an hR hy fun D e β' ρ' S' a' w' h1 h2 h3 h4 h5=>?_;have h6:=(h3.turn (o':=.deferred none) (show(cxL L fn.ntmps ok w).w.heap.size≤D from h5) h4 rfl (fun _ _=>by simp) rfl).withD [];have h7:Rel (cxL L fn.ntmps ok w) β' ρ' S'.flat { a' with defers:=[] } (w'.putObj D (.deferred none)):=h6;have key:=Jlq (Y:=Y) (y:=y) hT h2 h7;have hdf:a'.defers=[⟨.collected D,#[]⟩]:=h3.df
  have fin2:fin Y fn c.Δ S'=some y→LeavesInM Fence.wide 1 P fn a'.tmps (Q6k L w (Jcd c β ρ ok L w x y)) a'.defers .returning w':=fun hfin=>by
   obtain⟨_,v,hres,v2,hv2,hpost⟩:=key hfin;rw[hdf];refine⟨by simp,.inl ⟨D,_,rfl,run_takeDeferred h4,?_⟩⟩;exact⟨v,hres,v2,hv2,hpost⟩
  cases e with
  | n=>exact fin2 h1
  | x i=>cases h1
  | r=>exact fin2 h1
 ·cases hy
end
end Gx

/- Iterators: functions that call yield. -/
namespace Gx
open Go Go.RowKit Gd
inductive HnY where
 | done
 | h (m:Nat) (hn:Hn) (r:HnY)
 | mv (r:HnY)
 | yl (r:HnY)
 | so (t:Nat) (a b:HnY)
inductive AnY where
 | nil
 | reg (h:Hn)
 | yr (h:HnY)
 | two (a b:AnY)
 | un (a:AnY)
 | lp (ks ms:List Nat) (Γ:Shp) (exs:Exs) (a:AnY)
section
variable (Y:TX) (K:List Con) (n N:Nat) (u:Ty)
def gOk(ops:List Oper)(o:Oper)(S:XS):Bool:=match Qn4 ops o with
 | some none=>true
 | some (some (t,want))=>match Wo S.flat.env t with
  | some ⟨_,[],.d .bool b⟩=>b==want
  | _=>false
 | none=>false
def Mf{R:Type}(ops:List Oper):HnY→List Oper→List Nat→XS→List u.De→(XS→List u.De→Option R)→Option R
 | .done,l,ys,S,acc,k=>match l with
  | []=>k S acc
  | _::_=>none
 | .h m hn r,l,ys,S,acc,k=>bif Qf8 (l.take m)&&Qhm (Gf (l.take m)) ys then Vk Y K n ops hn (l.take m) S fun S'=>Mf ops r (l.drop m) ys S' acc k else none
 | .mv r,l,ys,S,acc,k=>match l with
  | o::l'=>match o.op,o.dst with
   | .move (.tmp t),some d=>bif Yr ys t&&okW n S d&&gOk ops o S then Mf ops r l' (d::ys) { S with env:=Vw S.env d } acc k else none
   | _,_=>none
  | []=>none
 | .yl r,l,ys,S,acc,k=>match l with
  | o::l'=>match o.op,o.dst with
   | .call ⟨.value (.tmp t),⟨[x]⟩,_⟩,some d=>match S.ev [] x with
    | some v=>match asD [] v u with
     | some y=>bif Yr ys t&&okW n S d&&gOk ops o S&&!Yr ys d&&(u.agg==v.isAgg)&&Jtt S.fixM then Mf ops r l' ys (XS.put { S with mem:=[] } d [] (.d .bool true)) (acc++[y]) k else none
     | none=>none
    | none=>none
   | _,_=>none
  | []=>none
 | .so t a b,l,ys,S,acc,k=>match Wo S.env t with
  | some ⟨_,[],.d .bool v⟩=>bif Qjf t S.fix then(if v=true then Mf ops a l ys (S.put t [] (.d .bool true)) acc k else Mf ops b l ys (S.put t [] (.d .bool false)) acc k)else none
  | _=>none
def In{R:Type}:AnY→Code→XS→List u.De→(Ex→XS→List u.De→Option R)→Option R
 | .nil,.skip,S,acc,k=>k .n S acc
 | .nil,.ret,S,acc,k=>k .r S acc
 | .nil,.exit id,S,acc,k=>k (.x id) S acc
 | .reg h,.region _ ⟨ops⟩ false,S,acc,k=>bif Qf8 ops&&Qhm (Gf ops) [0]then Vk Y K n ops h ops S fun S'=>k .n S' acc else none
 | .yr h,.region _ ⟨ops⟩ false,S,acc,k=>bif Qhm (Gf ops) [0]then Mf Y K n u ops h ops [0] S acc (k .n)else none
 | .two a b,.seq x y,S,acc,k=>In a x S acc fun e S' acc'=>match e with
  | .n=>In b y S' acc' k
  | .x i=>k (.x i) S' acc'
  | .r=>k .r S' acc'
 | .two a b,.cond c x y,S,acc,k=>match S.ev [] c with
  | some (.d .bool v)=>if v=true then In a x S acc k else In b y S acc k
  | _=>none
 | .un a,.block id c,S,acc,k=>In a c S acc fun e S' acc'=>match e with
  | .n=>k .n S' acc'
  | .x i=>bif Nat.beq i id then k .n S' acc' else k (.x i) S' acc'
  | .r=>k .r S' acc'
 | .lp ks ms Γ exs a,.loop c,S,acc,k=>match (S.ent ks ms).dec Γ with
  | some s0=>(Qf (fun(q:Γ.De×List u.De)=>In (R:=(Γ.De×List u.De)⊕(Jh8 exs×List u.De)) a c ((S.ent ks ms).re (enc Γ q.1)) q.2 fun e S' acc'=>match e with
    | .n=>(match S'.dec Γ with
     | some s'=>some (.inl (s',acc'))
     | none=>none)
    | .x i=>(match inj exs (.x i) S' with
     | some x=>some (.inr (x,acc'))
     | none=>none)
    | .r=>(match inj exs .r S' with
     | some x=>some (.inr (x,acc'))
     | none=>none)) N (s0,acc)).bind fun z=>Jh9 S ks ms (fun e S'=>k e S' z.2) exs z.1
  | none=>none
 | _,_,_,_,_=>none
end
theorem Qf9:∀(l m:List Oper),Gf (l++m)=Gf l++Gf m
 | [],m=>rfl
 | o::l,m=>by
  simp only[QD,Gf,Qf9 l m];split<;>rfl
theorem Qyq{l m:List Nat}(h:Qhm l m=true){t:Nat}(hl:t∈l)(hm:t∈m):False:=by
 have:=QR.1 h t hl;rw[Qqe hm]at this; cases this
theorem Jcv{l:List Nat}{t:Nat}:Yr l t=true→t∈l:=Qqc
section
variable {P:Program} {Y:TX} {n N:Nat} {K:List Con} {u:Ty} {es:List u.De}
theorem Qyr{X:Cx}{β:Nat→Nat}{ρ:Nat→Value}{S:XS}{a:Act}{w:World}{ops:List Oper}{o:Oper}(h:Rel X β ρ S.flat a w)(hg:gOk ops o S=true):Region.wanted o (yielded ⟨ops⟩ a.tmps)=true:=by
 unfold gOk at hg;split at hg
 ·grind [Ep,Qn4]
 ·rename_i t want hgt
  split at hg
  ·rename_i t' b he
   rw[Uy hgt];obtain⟨cs,h1,h2⟩:=h.get he (Qi a);have h2':cs=_:=h2;subst h2';rw[bEq hg]at h1;exact h1
  ·cases hg
 ·cases hg
theorem N5{R:Type}{r:R}{ops:List Oper}:∀(hn:HnY) {l:List Oper} {ys:List Nat} {S:XS} {acc:List u.De} {k:XS→List u.De→Option R},Mf Y K n u ops hn l ys S acc k=some r→(∀S' acc',k S' acc'=some r→acc' <+: es)→acc <+: es
 | .done,l,ys,S,acc,k,h,hk=>by
  unfold Mf at h;grind
 | .h m hn rr,l,ys,S,acc,k,h,hk=>by
  unfold Mf at h;obtain⟨_,h⟩:=bvT h;obtain⟨S1,h1,_⟩:=Qx0 h;exact N5 rr h1 hk
 | .mv rr,l,ys,S,acc,k,h,hk=>by
  unfold Mf at h;split at h
  ·split at h
   ·obtain⟨_,h⟩:=bvT h
    exact N5 rr h hk
   ·cases h
  ·cases h
 | .yl rr,l,ys,S,acc,k,h,hk=>by
  unfold Mf at h;split at h
  ·split at h
   ·split at h
    ·split at h
     ·obtain⟨_,h⟩:=bvT h
      exact(List.prefix_append _ _).trans (N5 rr h hk)
     ·cases h
    ·cases h
   ·cases h
  ·cases h
 | .so t a b,l,ys,S,acc,k,h,hk=>by
  unfold Mf at h;split at h
  ·obtain⟨_,h⟩:=bvT h
   split at h
   ·exact N5 a h hk
   ·exact N5 b h hk
  ·cases h
theorem Qys{R:Type}{S:XS}{ks ms:List Nat}{k:Ex→XS→Option R}{r:R}:∀{l:Exs} {x:Jh8 l},Jh9 S ks ms k l x=some r→∃e S',k e S'=some r
 | [],x,_=>nomatch x
 | [q],x,h=>⟨_,_,h⟩
 | q::q2::l,x,h=>by
  simp only[Jh9]at h;split at h
  ·exact⟨_,_,h⟩
  ·exact Qys h
theorem Pg:∀{R:Type} {r:R} (an:AnY) {c:Code} {S:XS} {acc:List u.De} {k:Ex→XS→List u.De→Option R},In Y K n N u an c S acc k=some r→(∀e S' acc',k e S' acc'=some r→acc' <+: es)→acc <+: es
 | R,r,.nil,c,S,acc,k,h,hk=>by
  cases c<;>simp only[In]at h<;>first | (cases h; done) | exact hk _ _ _ h
 | R,r,.reg hn,c,S,acc,k,h,hk=>by
  cases c with
  | region id ops draw =>
   obtain⟨ops⟩:=ops;cases draw with
   | true=>simp[In]at h
   | false =>
    simp only[In]at h;obtain⟨_,h⟩:=bvT h;grind [Qx0]
  | _=>simp[In]at h
 | R,r,.yr hn,c,S,acc,k,h,hk=>by
  cases c with
  | region id ops draw =>
   obtain⟨ops⟩:=ops;cases draw with
   | true=>simp[In]at h
   | false =>
    simp only[In]at h;obtain⟨_,h⟩:=bvT h;grind [N5]
  | _=>simp[In]at h
 | R,r,.two a b,c,S,acc,k,h,hk=>by
  cases c<;>simp only[In]at h<;>first | (cases h; done) | skip
  ·refine Pg a h fun e S' acc' h'=>?_
   cases e with
   | n=>exact Pg b h' hk
   | x i=>exact hk _ _ _ h'
   | r=>exact hk _ _ _ h'
  ·split at h
   ·split at h
    ·exact Pg a h hk
    ·exact Pg b h hk
   ·cases h
 | R,r,.un a,c,S,acc,k,h,hk=>by
  cases c<;>simp only[In]at h<;>first | (cases h; done) | skip
  rename_i id c1;refine Pg a h fun e S' acc' h'=>?_;grind
 | R,r,.lp ks ms Γ exs a,c,S,acc,k,h,hk=>by
  cases c<;>simp only[In]at h<;>first | (cases h; done) | skip
  rename_i c1;split at h
  ·rename_i s0 hs0
   obtain⟨z,hz,ho⟩:=Y0 h;obtain⟨e0,S0,hk0⟩:=Qys ho;have hzp:z.2 <+: es:=hk _ _ _ hk0;obtain⟨f,hz,hf⟩:∃f,Qf f N (s0,acc)=some z∧f=_:=⟨_,hz,rfl⟩
   have main:∀(m:Nat) (q:Γ.De×List u.De),Qf f m q=some z→q.2 <+: es:=by
    intro m
    induction m with
    | zero=>grind [Qf]
    | succ m ih =>
     intro q hq;simp only[Qf]at hq;obtain⟨x,hx,hq⟩:=Y0 hq;rw[hf]at hx;refine Pg a hx fun e S' acc' h'=>?_;grind
   grind
  ·cases h
structure YCx(P:Program)(Y:TX)(K:List Con)(n:Nat)(ok:Ok)(w0:World)(bs:List Nat)(X:Cx)(O:Nat→Prop):Prop where
 hX:X.n=n
 hr:X.res=[]
 hp:X.pin=none
 hd:X.dfs=[]
 hl:X.lent=[]
 hK:KsX P Y X K
 hO:∀b,O b→b<X.w.heap.size∧∀o,¬ X.ok b o
 hC:∀b o,X.ok b o→ok b o∨w0.heap.size≤b∨b∈bs
 hW:w0.heap.size≤X.w.heap.size
theorem Q31{X:Cx}{β:Nat→Nat}{ρ:Nat→Value}{S:St}{a:Act}{w:World}(h:Rel X β ρ S a w)(hl:X.lent=[]):Below X.w.heap.size X.w w:=by
 have:=h.bel;rw[hl]at this;exact this.nil
def reY(X:Cx)(β:Nat→Nat)(ρ:Nat→Value)(M:List (Nat×Ob))(A B:World):Cx:=⟨X.n,okR X β ρ M A,B,[],⟨#[],[]⟩,none,[],by simp,X.dfs⟩
theorem J6e{ok:Ok}{w0:World}{bs:List Nat}{X:Cx}{O O':Nat→Prop}(hC:YCx P Y K n ok w0 bs X O){β:Nat→Nat}{ρ:Nat→Value}{S:St}{a:Act}{A B:World}(h:Rel X β ρ S a A)
    (hO':∀b,O' b→O b∨A.heap.size≤b) (hOB:∀b,O' b→b<B.heap.size) (hsz:A.heap.size≤B.heap.size) (hsame:∀b,b<A.heap.size→¬ O b→B.heap[b]?=A.heap[b]?) :
    YCx P Y K n ok w0 bs (reY X β ρ S.mem A B) O'∧Rel (reY X β ρ S.mem A B) β ρ ⟨S.env,[]⟩ a B:=by
  have hno:∀b o,okR X β ρ S.mem A b o→¬ O b:=fun b o hbo hOb=>by
    obtain⟨q1,q2⟩:=hC.hO b hOb;rcases hbo.1 with q | q
    · exact q2 o q
    · omega
  have hev:Evo (okR X β ρ S.mem A) A B:=Evo.of_blocks hsz fun b o hbo=>hsame b hbo.2.1 (hno b o hbo);have hk:∀b o,okR X β ρ S.mem A b o→Jr (okR X β ρ S.mem A) B.heap.size (fun _=>0) [] (Qq β ρ []) B b o:=fun b o hbo=>⟨.inl hbo,QI hbo.2.1 hsz,by simp,by simp[Qq]⟩
  refine⟨⟨hC.hX,rfl,rfl,hC.hd,rfl,⟨hC.hK.1,?_⟩,fun b hb=>⟨hOB b hb,fun o hbo=>?_⟩,fun b o hbo=>?_,Nat.le_trans hC.hW (Nat.le_trans h.bel.size hsz)⟩,?_⟩
  · exact((Qd9 h hC.hK.2).keep hsz fun b o hbo=>hsame b hbo.2.1 (hno b o hbo)).weak fun b o hbo=>⟨hbo,by simp[reY],QI hbo.2.1 hsz⟩
  · rcases hO' b hb with q | q
    · exact hno b o hbo q
    · have:=hbo.2.1; omega
  · have hbo':okR X β ρ S.mem A b o:=hbo
    rcases hbo'.1 with q | q
    · exact hC.hC b o q
    · exact .inr (.inl (Nat.le_trans hC.hW q))
  · exact { sz:=h.sz,df:=h.df,fr:=by simp[reY],pn:=by simp[reY],tm:=by simp,bel:=Ki.refl _ _ _,obj:=by simp,dHH:=by simp,dHO:=by simp,
            dat:=Yq.2 fun x hx=>by
              obtain⟨e,he,rfl⟩:=QK.1 hx;exact(enD β ρ a e).weak ((enD β ρ a e).evo (Yq.1 h.dat _ (QK.2 ⟨e,he,rfl⟩)) hev) hk,
            own:=by simp[Qq],dOO:=by simp[Qq] }
section
variable (hT:Jg P Y.T) {ok:Ok} {w0:World} {bs:List Nat} {l m:Nat} {a0:Act} {J:Nat→(Nat→Prop)→World→Prop}
 (hst:∀k O A B,J k O A→Below A.heap.size A B→J k O B) (hlt:∀k O A,J k O A→∀b,O b→b<A.heap.size∧(∀o,¬ ok b o)∧b∉bs)
 (hy:∀k O A e v,J k O A→es[k]?=some e→isV (rt u) (okC ok w0 A O bs) A e v→∀m,YieldAt Fence.wide m P l #[v] A fun r B=>r=.returned (.bool true) ∧
     ∃O',J (k+1) O' B∧(∀b,O' b→O b∨A.heap.size≤b)∧A.heap.size≤B.heap.size∧∀b,b<A.heap.size→¬ O b→B.heap[b]?=A.heap[b]?)
include hT hst hlt hy
def YOk(P:Program)(Y:TX)(K:List Con)(n:Nat)(ok:Ok)(w0:World)(bs:List Nat)(J:Nat→(Nat→Prop)→World→Prop)(a0:Act)(S:XS)(β:Nat→Nat)(ρ:Nat→Value){R:Type}{u:Ty}(k:Ex→XS→List u.De→Option R)(r:R)(Q:Exit→Act→World→Prop):Prop :=
 ∀(X:Cx) (O:Nat→Prop) (e:Ex) (β':Nat→Nat) (ρ':Nat→Value) (S':XS) (a':Act) (w':World) (acc':List u.De),k e S' acc'=some r→YCx P Y K n ok w0 bs X O→J acc'.length O X.w→Vv S S' β β' ρ ρ'→Rel X β' ρ' S'.flat a' w'→a'.tmps[0]?=a0.tmps[0]?→Q e.exit a' w'
theorem Qeg{R:Type}{r:R}{ops:List Oper}{yv:Value}(hyv:yv=.func (.yield l) #[] #[]):∀(hn:HnY) {os:List Oper} {ys:List Nat} {S:XS} {acc:List u.De} {k:XS→List u.De→Option R} {X:Cx} {O:Nat→Prop} {β:Nat→Nat} {ρ:Nat→Value} {a:Act} {w:World} {Q:Exit→Act→World→Prop},
  ¬ LetsOut Q→(∀d∈Gf os,d∉[0])→Mf Y K n u ops hn os ys S acc k=some r→(∀S' acc',k S' acc'=some r→acc' <+: es)→YCx P Y K n ok w0 bs X O→J acc.length O X.w→Rel X β ρ S.flat a w→(∀t∈ys,a.tmps[t]?=some yv)→a.tmps[0]?=a0.tmps[0]? →
  YOk P Y K n ok w0 bs J a0 S β ρ (fun _=>k) r (fun _=>Q .normal)→wpListIn Fence.wide m P ⟨ops⟩ Q os a w
 | .done,os,ys,S,acc,k,X,O,β,ρ,a,w,Q,hQ,hz,h,hk,hC,hJ,hR,hys,h0,H=>by
  unfold Mf at h;split at h
  ·exact H X O .n β ρ S a w acc h hC hJ (Vv.refl _ _ _) hR h0
  ·cases h
 | .h m1 hn rr,os,ys,S,acc,k,X,O,β,ρ,a,w,Q,hQ,hz,h,hk,hC,hJ,hR,hys,h0,H=>by
  unfold Mf at h;obtain⟨hb,h⟩:=bvT h;simp only[QQ]at hb;have hsplit:os=os.take m1++os.drop m1:=(List.take_append_drop m1 os).symm
  have hd1:∀d∈Gf (os.take m1),d∈Gf os:=fun d hd=>by
   rw[hsplit,Qf9]; grind
  have hd2:∀d∈Gf (os.drop m1),d∈Gf os:=fun d hd=>by
   rw[hsplit,Qf9]; grind
  have hrun:=Uf hT hC.hK hC.hX hC.hr (Q:=QL (Gf (os.take m1)) a (fun a' w'=>wpListIn Fence.wide m P ⟨ops⟩ Q (os.drop m1) a' w') Q) hn (l:=os.take m1) (rest:=[]) hR h fun β' ρ' S' a' w' h1 h2 h3=>fun hsame=>by
   refine Qeg hyv rr hQ (fun d hd=>hz d (hd2 d hd)) h1 hk hC hJ h3 (fun t ht=>?_) ?_ fun X2 O2 e β2 ρ2 S2 a2 w2 acc2 q1 q2 q3 q4 q5 q6=>H X2 O2 e β2 ρ2 S2 a2 w2 acc2 q1 q2 q3 (h2.trans q4) q5 q6
   ·rw[hsame t fun hm=>Qyq hb.2 hm ht]; exact hys t ht
   ·rw[hsame 0 fun hm=>hz 0 (hd1 0 hm) (.head _)]; exact h0
  rw[QH]at hrun;have:=Qsh (ro:=none) (m:=m) (tl:=os.drop m1) hQ (fun a w hz=>hz) (os.take m1) hb.1 (fun d hd=>hd) a w (fun t _=>rfl) hrun;rw[List.take_append_drop]at this;exact this
 | .mv rr,os,ys,S,acc,k,X,O,β,ρ,a,w,Q,hQ,hz,h,hk,hC,hJ,hR,hys,h0,H=>by
  unfold Mf at h;split at h
  ·rename_i o os'
   split at h
   ·rename_i t d hop hdst
    obtain⟨hb,h⟩:=bvT h;simp only[QQ]at hb;have hw:=Qyr hR hb.2;obtain⟨hwd,hwo⟩:=Ue hb.1.2 hC.hX hC.hr;have hyt:=hys t (Jcv hb.1.1);unfold wpListIn;rw[if_pos hw];refine⟨fun _ _=>trivial,?_⟩;have hsem:Oper.semAt Fence.wide.round a.eval o=execOp a.eval o:=Oper.semAt_none _ _
    have hrun:(execOp a.eval o).run P w=.ok (.value yv) w:=by
     unfold execOp;rw[hop]
     have:a.eval (.tmp t)=yv:=by
      show a.tmps.getD t undef=yv;simp_all
     simp[this]
    rw[hsem,hrun];show wpListIn Fence.wide m P ⟨ops⟩ Q os' (a.put o.dst yv) w;rw[hdst]
    have hR2:Rel X β ρ (XS.flat { S with env:=Vw S.env d }) (a.put (some d) yv) w:=by
     have:=hR.del hwd yv;grind [St.del,XS.flat,Vw,Pe]
    have hdz:d∉[0]:=hz d (by simp[Gf,hdst]);have hlt2:d<a.tmps.size:=by rw[hR.sz]; exact Qw1 hwd
    refine Qeg hyv rr hQ (fun d' hd'=>hz d' (by grind [Gf])) h hk hC hJ hR2 (fun t' ht'=>?_) ((Vy (t:=0) (d:=d) (fun e=>hdz (by rw[←e]; exact .head _)) _).trans h0) fun X2 O2 e β2 ρ2 S2 a2 w2 acc2 q1 q2 q3 q4 q5 q6=>H X2 O2 e β2 ρ2 S2 a2 w2 acc2 q1 q2 q3 ⟨q4.fix,q4.fixM,q4.prot,q4.ag⟩ q5 q6
    by_cases e:t'=d
    ·subst e; simp[Act.put,hlt2]
    ·rcases QX.1 ht' with e2 | ht'
     ·exact absurd e2 e
     ·rw[Vy e]; exact hys t' ht'
   ·cases h
  ·cases h
 | .yl rr,os,ys,S,acc,k,X,O,β,ρ,a,w,Q,hQ,hz,h,hk,hC,hJ,hR,hys,h0,H=>by
  unfold Mf at h;split at h
  ·rename_i o os'
   split at h
   ·rename_i t x ts d hop hdst
    split at h
    ·rename_i v hv
     split at h
     ·rename_i y hyd
      obtain⟨hb,h⟩:=bvT h;simp only[QQ,JP]at hb;obtain⟨⟨⟨⟨⟨b1,b2⟩,b3⟩,b4⟩,b5⟩,b6⟩:=hb;have hw:=Qyr hR b3;obtain⟨hwd,hwo⟩:=Ue b2 hC.hX hC.hr;have hyt:=hys t (Jcv b1)
      have hyt':a.eval (.tmp t)=yv:=by
       show a.tmps.getD t undef=yv;simp[QP,hyt]
      have hfm:S.fixM=[]:=by
       cases hE:S.fixM with
       | nil=>rfl
       | cons q l=>rw[hE]at b6; cases b6
      obtain⟨cs,hv1,hv2⟩:=hR.ev (Qi a) hv
      have hval:isV (rt u) (okR X β ρ S.flat.mem w) w y (a.eval x):=by
       refine⟨cs,Gl (M:=[]) (β:=β) (ρ:=ρ) (by simp[Qk]) hyd hv2,?_⟩;rw[hv1]; simp only[AV.val,RT.val,Tq,bEq b5]; cases v.isAgg<;>rfl
      have hpre:acc++[y] <+: es:=N5 rr h hk
      have hek:es[acc.length]?=some y:=by
       obtain⟨tl,rfl⟩:=hpre;simp
      have hJw:=hst _ _ _ _ hJ (Q31 hR hC.hl)
      have hvalC:isV (rt u) (okC ok w0 w O bs) w y (a.eval x):=hval.weak fun b o' hbo=>by
       refine⟨?_,hbo.2.1,fun hOb=>?_⟩
       ·rcases hbo.1 with q | q
        ·exact hC.hC b o' q
        ·exact .inr (.inl (Nat.le_trans hC.hW q))
       ·obtain⟨q1,q2⟩:=hC.hO b hOb
        rcases hbo.1 with q | q
        ·exact q2 o' q
        ·omega
      obtain⟨fn,tmps,assign,body,hyr,hround⟩:=hy _ _ _ _ _ hJw hek hvalC (m - 1);unfold wpListIn;rw[if_pos hw];refine⟨fun _ _=>trivial,?_⟩;have hsem:Oper.semAt Fence.wide.round a.eval o=execOp a.eval o:=Oper.semAt_none _ _
      have hrun:(execOp a.eval o).run P w=.ok (.round l fn tmps assign body) w:=by
       grind [execOp,resolve,Deferred.ofValue,invoke]
      rw[hsem,hrun];refine⟨fun hd=>(by have h0:Fence.wide.depth.isSome=false:=rfl; rw[h0]at hd; cases hd),hround.mono ?_⟩;rintro r2 B ⟨rfl,O',hJ',hO',hsz,hsame⟩;obtain⟨hC2,hR2⟩:=J6e hC hR hO' (fun b hb=>(hlt _ _ _ hJ' b hb).1) hsz hsame;show wpListIn Fence.wide m P ⟨ops⟩ Q os' (a.put o.dst (.bool true)) B;rw[hdst];obtain⟨hwd2,_⟩:=Ue b2 hC2.hX hC2.hr
      have hR3:Rel (reY X β ρ S.flat.mem w B) β ρ (XS.flat (XS.put { S with mem:=[] } d [] (.d .bool true))) (a.put (some d) (.bool true)) B:=by
       have hflat:XS.flat { S with mem:=[] }=⟨S.flat.env,[]⟩:=by simp[XS.flat,hfm]
       rw[Hb (S:={ S with mem:=[] }) hwo,hflat];exact hR2.put0 hwd2 (x:=.d .bool true) (c:=[.bool true]) rfl
      have hdz:d∉[0]:=hz d (by grind [Gf]);refine Qeg hyv rr hQ (fun d' hd'=>hz d' (by grind [Gf])) h hk hC2 (by rw[List.length_append]; exact hJ') hR3 (fun t' ht'=>?_) ((Vy (t:=0) (d:=d) (fun e=>hdz (by rw[←e]; exact .head _)) _).trans h0) fun X2 O2 e β2 ρ2 S2 a2 w2 acc2 q1 q2 q3 q4 q5 q6=>H X2 O2 e β2 ρ2 S2 a2 w2 acc2 q1 q2 q3 ⟨q4.fix,q4.fixM,q4.prot,q4.ag⟩ q5 q6
      by_cases e:t'=d
      ·subst e
       rw[Qqe ht']at b4; cases b4
      ·rw[Vy e]; exact hys t' ht'
     ·cases h
    ·cases h
   ·cases h
  ·cases h
 | .so t x y,os,ys,S,acc,k,X,O,β,ρ,a,w,Q,hQ,hz,h,hk,hC,hJ,hR,hys,h0,H=>by
  unfold Mf at h;split at h
  ·rename_i t' v he
   obtain⟨hoff,h1⟩:=bvT h;have ht':=(Kl he).2;simp only at ht';subst ht';split at h1
   ·rename_i hv
    subst hv;exact Qeg hyv x hQ hz h1 hk hC hJ (Qyi hR he) hys h0 fun X2 O2 e β2 ρ2 S2 a2 w2 acc2 q1 q2 q3 q4 q5 q6=>H X2 O2 e β2 ρ2 S2 a2 w2 acc2 q1 q2 q3 ⟨q4.fix,q4.fixM,q4.prot,q4.ag⟩ q5 q6
   ·rename_i hv
    have hv:v=false:=by simpa using hv
    subst hv;exact Qeg hyv y hQ hz h1 hk hC hJ (Qyi hR he) hys h0 fun X2 O2 e β2 ρ2 S2 a2 w2 acc2 q1 q2 q3 q4 q5 q6=>H X2 O2 e β2 ρ2 S2 a2 w2 acc2 q1 q2 q3 ⟨q4.fix,q4.fixM,q4.prot,q4.ag⟩ q5 q6
  ·cases h
theorem Qga(ha0:a0.tmps[0]?=some (.func (.yield l) #[] #[])):∀{R:Type} {r:R} (an:AnY) {c:Code} {S:XS} {acc:List u.De} {k:Ex→XS→List u.De→Option R} {X:Cx} {O:Nat→Prop} {β:Nat→Nat} {ρ:Nat→Value} {a:Act} {w:World} {Q:Exit→Act→World→Prop},
  ¬ LetsOut Q→In Y K n N u an c S acc k=some r→(∀e S' acc',k e S' acc'=some r→acc' <+: es)→YCx P Y K n ok w0 bs X O→J acc.length O X.w→Rel X β ρ S.flat a w→a.tmps[0]?=a0.tmps[0]?→YOk P Y K n ok w0 bs J a0 S β ρ k r Q→c.wp P Q a w
 | R,r,.nil,c,S,acc,k,X,O,β,ρ,a,w,Q,hQ,h,hk,hC,hJ,hR,h0,H=>by
  cases c<;>simp only[In]at h<;>first | (cases h; done) | skip
  ·exact wp_skip (H X O .n β ρ S a w acc h hC hJ (Vv.refl _ _ _) hR h0)
  ·rename_i id; exact wp_exit (H X O (.x id) β ρ S a w acc h hC hJ (Vv.refl _ _ _) hR h0)
  ·exact wp_ret (H X O .r β ρ S a w acc h hC hJ (Vv.refl _ _ _) hR h0)
 | R,r,.reg hn,c,S,acc,k,X,O,β,ρ,a,w,Q,hQ,h,hk,hC,hJ,hR,h0,H=>by
  cases c with
  | region id ops draw =>
   obtain⟨ops⟩:=ops;cases draw with
   | true=>simp[In]at h
   | false =>
    simp only[In]at h;obtain⟨hb,h⟩:=bvT h;simp only[QQ]at hb;refine(wpIn_wide (n:=1)).1 (wpIn_region_list ?_);have:=Uf hT hC.hK hC.hX hC.hr (Q:=QS (Gf ops) a Q) hn (l:=ops) (rest:=[]) hR h fun β' ρ' S' a' w' h1 h2 h3=>fun hsame=>H X O .n β' ρ' S' a' w' acc h1 hC hJ h2 h3 ((hsame 0 fun hm=>Qyq hb.2 hm (.head _)).trans h0);rw[QH]at this;exact Q3y (ro:=none) hQ ops hb.1 (fun d hd=>hd) a w (fun t _=>rfl) this
  | _=>simp[In]at h
 | R,r,.yr hn,c,S,acc,k,X,O,β,ρ,a,w,Q,hQ,h,hk,hC,hJ,hR,h0,H=>by
  cases c with
  | region id ops draw =>
   obtain⟨ops⟩:=ops;cases draw with
   | true=>simp[In]at h
   | false =>
    simp only[In]at h;obtain⟨hb,h⟩:=bvT h;refine(wpIn_wide (n:=1)).1 (wpIn_region_list ?_)
    exact Qeg (m:=1) hT hst hlt hy rfl hn hQ (fun d hd hm=>Qyq hb hd hm) h (fun S' acc' h'=>hk _ _ _ h') hC hJ hR (fun t ht=>by
     grind) h0 fun X2 O2 e β2 ρ2 S2 a2 w2 acc2 q1 q2 q3 q4 q5 q6=>H X2 O2 .n β2 ρ2 S2 a2 w2 acc2 q1 q2 q3 q4 q5 q6
  | _=>simp[In]at h
 | R,r,.two x y,c,S,acc,k,X,O,β,ρ,a,w,Q,hQ,h,hk,hC,hJ,hR,h0,H=>by
  cases c<;>simp only[In]at h<;>first | (cases h; done) | skip
  ·rename_i c1 c2
   refine wp_seq (Qga ha0 x (Q:=Exit.then (c2.wp P Q) Q) hQ h (fun e S' acc' h'=>?_) hC hJ hR h0 fun X2 O2 e β2 ρ2 S2 a2 w2 acc2 q1 q2 q3 q4 q5 q6=>?_)
   ·grind [Pg]
   ·cases e with
    | n=>exact Qga ha0 y hQ q1 hk q2 q3 q5 q6 fun X3 O3 e β3 ρ3 S3 a3 w3 acc3 p1 p2 p3 p4 p5 p6=>H X3 O3 e β3 ρ3 S3 a3 w3 acc3 p1 p2 p3 (q4.trans p4) p5 p6
    | x i=>exact H X2 O2 (.x i) β2 ρ2 S2 a2 w2 acc2 q1 q2 q3 q4 q5 q6
    | r=>exact H X2 O2 .r β2 ρ2 S2 a2 w2 acc2 q1 q2 q3 q4 q5 q6
  ·rename_i co c1 c2
   split at h
   ·rename_i v hv
    obtain⟨cs,h1,h2⟩:=hR.ev (Qi a) hv;have h2':cs=_:=h2;subst h2';have h1':a.eval co=.bool v:=h1;refine wp_cond_split h1' (fun hv=>?_) (fun hv=>?_)
    ·rw[if_pos hv]at h
     exact Qga ha0 x hQ h hk hC hJ hR h0 H
    ·rw[if_neg (by rw[hv]; simp)]at h
     exact Qga ha0 y hQ h hk hC hJ hR h0 H
   ·cases h
 | R,r,.un x,c,S,acc,k,X,O,β,ρ,a,w,Q,hQ,h,hk,hC,hJ,hR,h0,H=>by
  cases c<;>simp only[In]at h<;>first | (cases h; done) | skip
  rename_i id c1;refine wp_block (Qga ha0 x (Q:=Exit.inBlock id Q) hQ h (fun e S' acc' h'=>?_) hC hJ hR h0 fun X2 O2 e β2 ρ2 S2 a2 w2 acc2 q1 q2 q3 q4 q5 q6=>?_)
  ·grind
  ·cases e with
   | n=>exact H X2 O2 .n β2 ρ2 S2 a2 w2 acc2 q1 q2 q3 q4 q5 q6
   | x i =>
    simp only at q1;show if i=id then Q .normal a2 w2 else Q (.exit i) a2 w2
    cases hb:Nat.beq i id with
    | true =>
     rw[hb]at q1;rw[if_pos (Nat.eq_of_beq_eq_true hb)];exact H X2 O2 .n β2 ρ2 S2 a2 w2 acc2 q1 q2 q3 q4 q5 q6
    | false =>
     rw[hb]at q1;rw[if_neg (fun e=>by rw[e,Nat.beq_refl]at hb; cases hb)];exact H X2 O2 (.x i) β2 ρ2 S2 a2 w2 acc2 q1 q2 q3 q4 q5 q6
   | r=>exact H X2 O2 .r β2 ρ2 S2 a2 w2 acc2 q1 q2 q3 q4 q5 q6
 | R,r,.lp ks ms Γ exs x,c,S,acc,k,X,O,β,ρ,a,w,Q,hQ,h,hk,hC,hJ,hR,h0,H=>by
  cases c<;>simp only[In]at h<;>first | (cases h; done) | skip
  rename_i c1;split at h
  ·rename_i s0 hs0
   obtain⟨z,hz,ho⟩:=Y0 h;obtain⟨e0,S0,hk0⟩:=Qys ho;have hzp:z.2 <+: es:=hk _ _ _ hk0;obtain⟨f,hz,hf⟩:∃f,Qf f N (s0,acc)=some z∧f=_:=⟨_,hz,rfl⟩
   have main:∀(m:Nat) (q:Γ.De×List u.De),Qf f m q=some z→q.2 <+: es:=by
    intro m
    induction m with
    | zero=>grind [Qf]
    | succ m ih =>
     intro q hq;simp only[Qf]at hq;obtain⟨x,hx,hq⟩:=Y0 hq;rw[hf]at hx;grind [Pg,fin]
   obtain⟨β1,ρ1,h1,h2⟩:=Qcx (S0:=S.ent ks ms) (hR.ent ks ms) ⟨rfl,rfl,rfl⟩ hs0;refine Qpl (fun m a w=>∃(s:Γ.De) (ac:List u.De) (X1:Cx) (O1:Nat→Prop) (β':Nat→Nat) (ρ':Nat→Value),YCx P Y K n ok w0 bs X1 O1∧J ac.length O1 X1.w∧a.tmps[0]?=a0.tmps[0]?∧agP S.prot β β' ρ ρ'∧Rel X1 β' ρ' ((S.ent ks ms).re (enc Γ s)).flat a w∧Qf f m (s,ac)=some z) N ⟨s0,acc,X,O,β1,ρ1,hC,hJ,h0,h1,h2,hz⟩ ?_;rintro m1 a1 w1 ⟨s,ac,X1,O1,β',ρ',hC1,hJ1,h01,h3,h4,h5⟩;cases m1 with
   | zero=>simp[Qf]at h5
   | succ m1 =>
    simp only[Qf]at h5;obtain⟨q,hq,h5⟩:=Y0 h5;rw[hf]at hq
    have fin:∀acc',(∃s',some (Sum.inl (s',acc'))=some q)∨(∃y,some (Sum.inr (y,acc'))=some q)→acc' <+: es:=by
     grind
    refine Qga ha0 x (Q:=Exit.then (fun a' w'=>∃k,k<m1+1∧∃(s:Γ.De) (ac:List u.De) (X1:Cx) (O1:Nat→Prop) (β':Nat→Nat) (ρ':Nat→Value),YCx P Y K n ok w0 bs X1 O1∧J ac.length O1 X1.w∧a'.tmps[0]?=a0.tmps[0]?∧agP S.prot β β' ρ ρ'∧Rel X1 β' ρ' ((S.ent ks ms).re (enc Γ s)).flat a' w'∧Qf f k (s,ac)=some z) Q) hQ hq (fun e S' acc' h'=>?_) hC1 hJ1 h4 h01 fun X2 O2 e β2 ρ2 S' a' w' acc2 h6 q2 q3 h7 h8 q6=>?_
    ·grind
    ·cases e with
     | n =>
      simp only at h6;split at h6
      ·rename_i s' hd
       injection h6 with h6; subst h6
       obtain⟨β3,ρ3,h9,h10⟩:=Qcx (S0:=S.ent ks ms) h8 ⟨h7.fix,h7.fixM,h7.prot⟩ hd;exact⟨m1,Nat.lt_succ_self m1,s',acc2,X2,O2,β3,ρ3,q2,q3,q6,(h3.trans h7.ag).trans h9,h10,h5⟩
      ·cases h6
     | x i =>
      simp only at h6;split at h6
      ·rename_i s' hd
       injection h6 with h6; subst h6
       injection h5 with h5; subst h5
       obtain⟨β3,ρ3,S1,h9,h10,h11⟩:=Qsf ks ms hd ho ⟨h7.fix,h7.fixM,h7.prot⟩ h8;exact H X2 O2 (.x i) β3 ρ3 _ a' w' acc2 h9 q2 q3 ⟨rfl,rfl,rfl,(h3.trans h7.ag).trans h10⟩ h11 q6
      ·cases h6
     | r =>
      simp only at h6;split at h6
      ·rename_i s' hd
       injection h6 with h6; subst h6
       injection h5 with h5; subst h5
       obtain⟨β3,ρ3,S1,h9,h10,h11⟩:=Qsf ks ms hd ho ⟨h7.fix,h7.fixM,h7.prot⟩ h8;exact H X2 O2 .r β3 ρ3 _ a' w' acc2 h9 q2 q3 ⟨rfl,rfl,rfl,(h3.trans h7.ag).trans h10⟩ h11 q6
      ·cases h6
  ·cases h
end
end
def Jqa:List DV→Nat→List En
 | [],_=>[]
 | v::l,i=>⟨i,[],.a v.1 v.2⟩::Jqa l (i+1)
def J12(Y:TX)(K:List Con)(N:Nat)(u:Ty)(fn:Func)(an:AnY)(cs:List Ty)(x:Tup cs):Option (List u.De):=match fn.body with
 | some c=>bif Nat.ble (cs.length+1) fn.ntmps&&Nat.blt (cs.length+1) 100000 then In Y K fn.ntmps N u an c ⟨Jqa (toL cs x) 1,Qp8 Y.gl,[],[],[]⟩ [] fun e S acc=>match e with
  | .x _=>none
  | .n=>some acc
  | .r=>some acc else none
 | none=>none
theorem Qwi:∀(ts:List Ty) (x:Tup ts),(toL ts x).length=ts.length
 | [],_=>rfl
 | [t],x=>rfl
 | t::u::ts,x=>by simp[toL,Qwi (u::ts)]
theorem Jcw{ok:Ok}{w:World}:∀{l:List DV} {bs:List Nat},Jp7 ok w l bs→bs.length=l.length
 | [],[],_=>rfl
 | v::l,b::bs,h=>by simp[Jcw h.2]
 | [],_::_,h=>h.elim
 | _::_,[],h=>h.elim
theorem Qyt{ok:Ok}{w:World}:∀{l:List DV} {bs:List Nat},Jp7 ok w l bs→∀(i:Nat) v,l[i]?=some v→∃b,bs[i]?=some b∧∃tid cs,w.heap[b]?=some (.cells cs.toArray tid (0,0))∧(rt v.1).rep ok w v.2 cs
 | [],[],_,i,v,hv=>by simp at hv
 | x::l,b::bs,h,0,v,hv=>by
  simp at hv; subst hv;exact⟨b,rfl,h.1⟩
 | x::l,b::bs,h,i+1,v,hv=>Qyt h.2 i v (by simpa using hv)
 | [],_::_,h,_,_,_=>h.elim
 | _::_,[],h,_,_,_=>h.elim
theorem Jcx:∀{l:List DV} {i:Nat} {e:En},e∈Jqa l i→∃j v,l[j]?=some v∧e=⟨i+j,[],.a v.1 v.2⟩
 | v::l,i,e,h=>by
  rcases QX.1 h with rfl | h
  ·exact⟨0,v,rfl,rfl⟩
  ·obtain⟨j,v',h1,h2⟩:=Jcx h
   exact⟨j+1,v',h1,by rw[h2]; congr 1; omega⟩
theorem Jz6{P:Program}{Y:TX}{K:List Con}{N:Nat}(hT:Jg P Y.T)(hmix:P.follows .mixedOrders=true)(hK:Jcl P Y.gl K){it:It}{fn:Func}(hf:P.funcs[it.f]?=some fn)(hres:fn.results=#[]){an:AnY}(hrun:∀x,it.fn x=J12 Y K N it.u fn an it.cs x):Jp8 P Y.gl it:=by
 intro ok w bs x es hok hG hes hbox hnd hbno l J W O0 hbel hst hlt hy hJ0 m;rw[hrun]at hes;unfold J12 at hes;split at hes
 case h_2=>cases hes
 rename_i c hb;obtain⟨hc,hes⟩:=bvT hes;simp only[QQ]at hc;have hn:=QV hc.1;have hsm:=QV hc.2;have hbl:=Jcw hbox;rw[Qwi]at hbl;refine callsIn_wide.2 (calls_of_wp hf hb ?_);obtain⟨a,ha⟩:∃a:Act,a={ tmps:=(#[Value.func (.yield l) #[] #[]]++(bs.map Jcu).toArray)++Array.replicate (fn.ntmps - (#[Value.func (.yield l) #[] #[]]++(bs.map Jcu).toArray).size) undef,defers:=[] }:=⟨_,rfl⟩
 rw[←ha]
 have hsize:(#[Value.func (.yield l) #[] #[]]++(bs.map Jcu).toArray).size=it.cs.length+1:=by
  grind
 have ha0:a.tmps[0]?=some (.func (.yield l) #[] #[]):=by
  rw[ha];grind
 have hag:∀(j:Nat) b,bs[j]?=some b→a.tmps[1+j]?=some (Jcu b):=fun j b hj=>by
  rw[ha];have hjl:=(List.getElem?_eq_some_iff.1 hj).1;rw[XZ (by rw[hsize]; omega),Array.getElem?_append_right (by simp)];simp[hj]
 obtain⟨X,hX⟩:∃X:Cx,X=⟨fn.ntmps,fun b o=>ok b o∨b∈bs,W,[],⟨#[],[]⟩,none,[],by simp,[]⟩:=⟨_,rfl⟩
 have hev:Evo ok w W:=(Evo.of_below hbel).mono fun b o hbo=>hok b o hbo
 have hbW:∀b∈bs,b<w.heap.size:=fun b hb=>by
  obtain⟨i,hi⟩:=List.getElem?_of_mem hb;have hil:=(List.getElem?_eq_some_iff.1 hi).1;have hvl:i<(toL it.cs x).length:=by rw[Qwi]; omega
  obtain⟨b',h1,tid,cs,h2,_⟩:=Qyt hbox i _ (List.getElem?_eq_getElem hvl);rw[hi]at h1; grind
 have hGX:Zj Y.gl (okN X) X.w:=by
  rw[hX];exact(hG.keep hbel.size fun b o hbo=>hbel.block b (hok b o hbo)).weak fun b o hbo=>⟨.inl hbo,by simp,QI (hok b o hbo) hbel.size⟩
 have hGW:Zj Y.gl (okN X) W:=by
  have h:=hGX;rw[show X.w=W by rw[hX]]at h;exact h
 have hokR:∀b o,ok b o∨b∈bs→okR X (fun _=>0) (fun _=>undef) [] W b o:=fun b o hbo=>⟨.inl (by rw[hX]; exact hbo),by
  rcases hbo with h | h
  ·exact QI (hok b o h) hbel.size
  ·exact QI (hbW b h) hbel.size,by simp,by simp[Qq]⟩
 have hR:Rel X (fun _=>0) (fun _=>undef) (XS.flat ⟨Jqa (toL it.cs x) 1,Qp8 Y.gl,[],[],[]⟩) a W:=by
  have hS:Sb (fun _=>0) X [] [] [] (Qq (fun _=>0) (fun _=>undef) []) a W :=
   { sz:=by rw[ha,hX]; grind,df:=by rw[ha,hX],fr:=by rw[hX]; simp,pn:=by rw[hX]; simp,tm:=by simp,bel:=by rw[hX]; exact Ki.refl _ _ _,dat:=trivial,obj:=by simp,own:=by simp[Qq],dHH:=by simp,dHO:=by simp,dOO:=by simp[Qq] }
  have e:XS.flat ⟨Jqa (toL it.cs x) 1,Qp8 Y.gl,[],[],[]⟩=⟨Jqa (toL it.cs x) 1++Qp8 Y.gl,[]⟩:=by simp[XS.flat]
  rw[e];refine Rel.ofSb hS rfl fun e he=>?_;rcases QZ.1 he with he | he
  ·obtain⟨j,v,hj,rfl⟩:=Jcx he
   obtain⟨b,hb1,tid,cs,hb2,hb3⟩:=Qyt hbox j v hj;have hjl:=(List.getElem?_eq_some_iff.1 hj).1;rw[Qwi]at hjl;have hbm:=List.mem_of_getElem? hb1;refine⟨fun _=>⟨[Jcu b],?_,Jcu b,rfl,b,0,cs,rfl,(rt v.1).weak ((rt v.1).evo hb3 hev) fun b o hbo=>hokR b o (.inl hbo),fun j2 u2 hu2=>⟨hokR _ _ (.inr hbm),?_⟩⟩,.inl (Qi a)⟩
   ·rw[Qbx (Nat.ble_eq_true_of_le (by grind))]
    exact hag j b hb1
   ·have hbw:W.heap[b]?=some (.cells cs.toArray tid (0,0)):=(hbel.block b (hbW b hbm)).trans hb2
    simp_all [World.cell?,QW]
  ·exact Jct hGW (fun b o (hbo:okN X b o)=>⟨.inl hbo.1,(by have h:=hbo.2.2; rw[hX]at h; exact h),by simp,by simp[Qq]⟩) e he
 have hC:YCx P Y K fn.ntmps ok w bs X O0:=by
  refine⟨by rw[hX],by rw[hX],by rw[hX],by rw[hX],by rw[hX],⟨hK,hGX⟩,fun b hb=>?_,fun b o hbo=>?_,by rw[hX]; exact hbel.size⟩
  ·obtain⟨q1,q2,q3⟩:=hlt _ _ _ hJ0 b hb
   rw[hX];grind
  grind
 have hJX:J ([]:List it.u.De).length O0 X.w:=by rw[hX]; exact hJ0
 refine Qga (a0:=a) hT hst hlt hy ha0 an (Q:=bodyPost P fn _) ?_ hes (fun e S' acc' h'=>?_) hC hJX hR rfl fun X2 O2 e β' ρ' S' a' w' acc' h1 h2 h3 h4 h5 h6=>?_
 ·rintro⟨_,_,h⟩
  obtain⟨⟨v,hv⟩,_⟩:=h;cases hv
 ·grind
 ·have hfin:acc'=es→bodyPost P fn (fun e B=>(∃v,e=.returned v)∧∃O,J es.length O B) .ret a' w':=fun he=>by
   subst he;refine⟨h5.df.trans h2.hd,.tuple #[],?_,⟨_,rfl⟩,O2,hst _ _ _ _ h3 (Q31 h5 h2.hl)⟩;simp[results,hres]
  cases e with
  | x i=>cases h1
  | n=>exact hfin (by injection h1)
  | r=>exact hfin (by injection h1)
end Gx

/- From a statement's arguments to data, and back to the statement. -/
namespace Gx
open Go Go.RowKit Gd Go.WideShapes Go.ChangeShapes
def Qoc{α:Type}(g:α→Prop):Nat→Wn α→Prop
 | 0,_=>False
 | n+1,x=>g x.x∧Qxc (Qoc g n) x.ks
theorem Qsi{α:Type}{g:α→Prop}:∀{n m:Nat} {x:Wn α},n≤m→Qoc g n x→Qoc g m x
 | 0,_,_,_,h=>h.elim
 | n+1,0,_,hle,_=>absurd hle (by omega)
 | n+1,m+1,x,hle,h=>⟨h.1,h.2.1,fun y hy=>Qsi (by omega) (h.2.2 y hy)⟩
theorem Jur{α:Type}{g:α→Prop}{x:α}{ks:List (Wn α)}(h:g x)(hk:Qxc (fun y=>∃n,Qoc g n y) ks):∃n,Qoc g n (.mk x ks):=by
 have:∃n,∀y∈ks,Qoc g n y:=by
  have h2:=hk.2;clear hk
  induction ks with
  | nil=>simp_all
  | cons z l ih =>
   obtain⟨n,hn⟩:=ih fun y hy=>h2 y (.tail _ hy);obtain⟨m,hm⟩:=h2 z (.head _);refine⟨max n m,fun y hy=>?_⟩;rcases QX.1 hy with rfl | hy
   ·exact Qsi (Nat.le_max_right _ _) hm
   grind [Qsi,Nat.le_max_left]
 obtain⟨n,hn⟩:=this;exact⟨n+1,h,hk.1,hn⟩
def gd:(t:Ty)→t.De→Prop
 | .int k,x=>Js6 k x
 | .bool,_=>True
 | .str,x=>Js7 x
 | .sl e,x=>Qxc (gd e) x
 | .arr _ e,x=>∀y∈x,gd e y
 | .unit,_=>True
 | .pr f r,x=>gd f x.1∧gd r x.2
 | .st fs,x=>gd fs x
 | .ref,_=>True
 | .rose fs,x=>∃n,Qoc (gd fs) n x
abbrev Yb(P:Program)(t:TypeId)(ty:Ty):Prop:=O7 P (rt ty) t (gd ty)
section
variable {P:Program}
theorem Jqb{t:TypeId}{k:IntKind}(ht:P.underlying t=some (.int k))(hc:P.cellsOf t=1):Yb P t (.int k):=Jo0 ht hc
theorem Jit{t:TypeId}(ht:P.underlying t=some .bool)(hc:P.cellsOf t=1):Yb P t .bool:=by
 have:=Jh1 ht hc;exact⟨this.1,this.2.1,fun enc w n cs x h=>let⟨y,h1,_⟩:=this.2.2 enc w n cs x h; ⟨y,h1,trivial⟩⟩
theorem Jqc{t:TypeId}(ht:P.underlying t=some .string)(hc:P.cellsOf t=1):Yb P t .str:=Jo1 ht hc
theorem Ko{t e:TypeId}{ty:Ty}(ht:P.underlying t=some (.slice e))(hc:P.cellsOf t=1)(he:Yb P e ty)(hpos:Nat.ble 1 ty.size=true):Yb P t (.sl ty) :=
 Js8 ht hc he (by rw[Jo]; exact QV hpos)
inductive Jcy(P:Program)(ff:Array Field):Ty→Nat→Nat→Prop
 | last {ty:Ty} {i off t:Nat} {f:Field} (ho:Yb P t ty) (hi:ff[i]?=some f) (ht:f.type=t) (hoff:f.offset=off):Jcy P ff ty i off
 | pr {ty r:Ty} {i off t:Nat} {f:Field} (ho:Yb P t ty) (hi:ff[i]?=some f) (ht:f.type=t) (hoff:f.offset=off) (hr:Jcy P ff r (i+1) (off+ty.size)):Jcy P ff (.pr ty r) i off
theorem Jqd{ff:Array Field}{H:Type}{enc:TypeId×Value→H}{w:World}{n:Nat}{cs:List Value}{xs:List (DataW H×List MemPlace)}
  (hlen:xs.length=ff.size) (hf:∀(i:Nat) (f:Field),ff[i]?=some f→DataW.trod enc P w 0 (fun _=>true) true n f.type ((cs.drop f.offset).take (P.cellsOf f.type))=xs[i]?) :
  ∀{ty:Ty} {i off:Nat},Jcy P ff ty i off→cs.length=off+ty.size→∃y,(rt ty).rep (lt w) w y (cs.drop off)∧gd ty y:=by
 intro ty i off h
 induction h with
 | last ho hi ht hoff =>
  intro hl;obtain⟨y,h1,h2⟩:=O7.fld ho hlen hf _ _ hi ht hoff;rw[List.take_of_length_le (by grind [Jo])]at h1;grind
 | pr ho hi ht hoff hr ih =>
  intro hl;rename_i ty r i off t f;obtain⟨y,h1,h2⟩:=O7.fld ho hlen hf _ _ hi ht hoff
  have hl':cs.length=off+ty.size+r.size:=by
   have:(Ty.pr ty r).size=ty.size+r.size:=rfl;omega
  obtain⟨z,h3,h4⟩:=ih hl';refine⟨(y,z),⟨_,cs.drop (off+ty.size),?_,h1,h3⟩,h2,h4⟩;rw[Jo,←List.drop_drop];grind [List.take_append_drop]
theorem Kp{t:TypeId}{fs:Ty}{ff:Array Field}(ht:P.underlying t=some (.struct ff))(hc:P.cellsOf t=fs.size)(ho:Jcy P ff fs 0 0):Yb P t (.st fs):=by
 refine⟨by rw[hc,Jo]; rfl,fun hv=>⟨fun _=>?_,fun h=>nomatch h⟩,fun enc w n cs x h=>?_⟩
 ·obtain⟨c,rfl,_⟩:=okWide_struct ht hv; exact⟨_,rfl⟩
 ·obtain⟨xs,m,_,_,hl,hlen,hf⟩:=DataW.trod_struct ht h
  obtain⟨y,h1,h2⟩:=Jqd hlen hf ho (by rw[hl,hc]; simp);exact⟨y,by grind [rt,J5t],h2⟩
theorem Jqe{ok:Ok}{w:World}{β:Nat→Nat}{ρ:Nat→Value}:Qtu (Qq β ρ []) [] ok w:=⟨by simp[Qq],.nil,by simp⟩
section
variable {β:Nat→Nat} {ρ:Nat→Value} {ok:Ok} {w:World}
theorem J8a{t0 t1:Ty}{x0:t0.De}{x1:t1.De}{v0 v1:Value}(h0:isV (rt t0) ok w x0 v0)(h1:isV (rt t1) ok w x1 v1) :
  ∀e∈[(⟨0,[],.d t0 x0⟩:En),⟨1,[],.d t1 x1⟩],∃cs,[v0,v1][e.t]?=some (e.av.val cs)∧cr β ρ ok w false e.av cs:=by
 intro e he;obtain⟨c0,p0,q0⟩:=Qlr (β:=β) (ρ:=ρ) h0;obtain⟨c1,p1,q1⟩:=Qlr (β:=β) (ρ:=ρ) h1;grind
theorem Jqf{c:Con}{x:c.Γ.De}{y:Qia c.Δ}{f:FuncId}{args:Array Value}(h:Calls P f args w (Q6k [] w (Jcd c β ρ ok [] w x y)))(hy:Qd7 (Qje c.Δ y).env=.d .bool true):Calls P f args w (Ret w (R1 Q2v ok w true)):=by
 refine h.mono ?_;rintro e w' ⟨v,rfl,⟨β',ρ',_,⟨cs,h1,h2⟩,_⟩,hb⟩;refine⟨v,rfl,?_,hb⟩;rw[hy]at h1 h2;have h2':cs=[.bool true]:=h2;subst h2';exact Qw0.2 h1
end
end
end Gx

/- Annotations that follow from the code, but for some pieces. -/
namespace Gx
open Go Go.RowKit Gd
inductive Pc where
 | lp (ks ms:List Nat) (Γ:Shp) (exs:Exs)
 | jn (ks ms:List Nat) (exs:Exs)
 | gh (g:Hn)
 | rg (h:Hn)
 | an (a:An)
 | dd
def Qgb:List (Nat×Pc)→Nat→List Pc
 | [],_=>[]
 | (k,p)::l,i=>bif Nat.beq k i then p::Qgb l i else Qgb l i
def Qcy:List Pc→An→An
 | [],a=>a
 | .lp ks ms Γ exs::r,a=>.lp ks ms Γ exs (Qcy r a)
 | .jn ks ms exs::r,a=>.jn ks ms exs (Qcy r a)
 | .gh g::r,a=>.gh g (Qcy r a)
 | .rg h::_,_=>.reg h
 | .an a::_,_=>a
 | .dd::_,_=>.gh (.tl .done) .nil
def J8b:Nat→List Nat→Nat→Nat
 | _,[],i=>i
 | f,k::l,i=>bif Nat.beq f k then i else J8b f l (i+1)
def Jus(K:List Nat):List Oper→Hn
 | []=>.done
 | o::l=>match o.op with
  | .call ⟨.value (.func f),_,_⟩=>.call (J8b f K 0) (Jus K l)
  | _=>.n 1 (Jus K l)
def Qjo(K:List Nat)(ps:List (Nat×Pc)):Code→Nat→An×Nat
 | .region _ ⟨ops⟩ _,i=>(Qcy (Qgb ps i) (.reg (Jus K ops)),i+1)
 | .seq a b,i=>match Qjo K ps a (i+1)with
  | (x,j)=>match Qjo K ps b j with
   | (y,k)=>(Qcy (Qgb ps i) (.two x y),k)
 | .cond _ a b,i=>match Qjo K ps a (i+1)with
  | (x,j)=>match Qjo K ps b j with
   | (y,k)=>(Qcy (Qgb ps i) (.two x y),k)
 | .block _ a,i=>match Qjo K ps a (i+1)with
  | (x,j)=>(Qcy (Qgb ps i) (.un x),j)
 | .scope a,i=>match Qjo K ps a (i+1)with
  | (x,j)=>(Qcy (Qgb ps i) (.un x),j)
 | .loop a,i=>match Qjo K ps a (i+1)with
  | (x,j)=>(Qcy (Qgb ps i) x,j)
 | _,i=>(Qcy (Qgb ps i) .nil,i+1)
def Jut(K:List Nat)(ps:List (Nat×Pc))(c:Option Code):An:=match c with
 | some c=>(Qjo K ps c 0).1
 | none=>.nil
def sL:List Sk→Sk
 | []=>.nil
 | x::l=>.cons x (sL l)
def sDe:List Ty→Nat→List (Nat×Sk)
 | [],_=>[]
 | t::l,i=>(i,.d t)::sDe l (i+1)
def sD(l:List Ty):Shp:=⟨sDe l 0,[]⟩
end Gx

/- Functions of the library, by the kit's contracts; the package-level variables that a statement lists. -/
namespace Gx
open Go Go.RowKit Go.Lib Go.Sort Gd
section
variable {P:Program} {gl:List (Nat×Σ t:Ty,t.De)}
end
end Gx

/- slices.Clone. -/
namespace Gx
open Go Go.RowKit Gd
section
variable {P:Program} {Y:TX}
end
end Gx

/- The keys of a map of one's own, in order: slices.Sorted(maps.Keys(m)) at keys that are ints. -/
namespace Gx
open Go Go.RowKit Gd
def Jiu(x:Int):List Int→List Int
 | []=>[x]
 | y::r=>bif decide (x≤y)then x::y::r else y::Jiu x r
def Qsj:List Int→List Int
 | []=>[]
 | x::r=>Jiu x (Qsj r)
theorem Qsk(x:Int):∀l:List Int,(Jiu x l).Perm (x::l)
 | []=>.refl _
 | y::r=>by
  unfold Jiu;cases h:decide (x≤y)
  ·exact((Qsk x r).cons y).trans (.swap ..)
  ·exact .refl _
theorem Qb4:∀l:List Int,(Qsj l).Perm l
 | []=>.refl _
 | x::r=>(Qsk x _).trans ((Qb4 r).cons x)
theorem Qua(x:Int):∀l:List Int,l.Pairwise (·≤·)→(Jiu x l).Pairwise (·≤·)
 | [],_=>by simp[Jiu]
 | y::r,h=>by
  unfold Jiu;cases hd:decide (x≤y)
  ·have hd:=of_decide_eq_false hd
   refine List.pairwise_cons.2 ⟨fun z hz=>?_,Qua x r (List.pairwise_cons.1 h).2⟩;rcases QX.1 ((Qsk x r).mem_iff.1 hz)with rfl | hz
   ·omega
   simp_all
  ·have hd:=of_decide_eq_true hd
   refine List.pairwise_cons.2 ⟨fun z hz=>?_,h⟩;rcases QX.1 hz with rfl | hz
   ·exact hd
   grind [Int.le_trans,List.pairwise_cons]
theorem Qng:∀l:List Int,(Qsj l).Pairwise (·≤·)
 | []=>.nil
 | x::r=>Qua x _ (Qng r)
theorem Qu3{ss l:List Int}(h:ss.Perm l):ss.mergeSort (fun x y=>decide (x≤y))=Qsj l:=by
 refine List.Perm.eq_of_pairwise (le:=fun a b:Int=>a≤b) (fun a b _ _ h1 h2=>Int.le_antisymm h1 h2) ?_ (Qng l) (((List.mergeSort_perm _ _).trans h).trans (Qb4 l).symm);exact(List.pairwise_mergeSort (fun a b c h1 h2=>by grind) (fun a b=>by grind) ss).imp fun h=>of_decide_eq_true h
section
variable {P:Program} {gl:List (Nat×Σ t:Ty,t.De)}
end
end Gx
