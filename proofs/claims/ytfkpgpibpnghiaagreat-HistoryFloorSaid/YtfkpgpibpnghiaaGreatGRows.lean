/- Rows of the call's own whose elements are written. -/
import Derived.Test.YtfkpgpibpnghiaaGreatGCore
import Derived.Laws.MakeOwn
import Derived.ProofKit
import Derived.OpenShut
import Derived.Below
import Derived.ChangeSame
import Derived.MapKept
namespace Gd
open Go Go.RowKit
set_option linter.unusedVariables false
set_option linter.unusedSimpArgs false
theorem Fd{τ:Type}{r:RT τ}{ok:Ok}{w w':World}{xs:List τ}{cs:List Value}(h:Ks r ok w xs cs)(he:Evo ok w w'):Ks r ok w' xs cs:=((Jdb xs.length r).evo (x:=xs) ⟨rfl,h⟩ he).2
theorem Xp{τ:Type}{r:RT τ}{ok ok':Ok}{w:World}{xs:List τ}{cs:List Value}(h:Ks r ok w xs cs)(hk:∀b o,ok b o→ok' b o):Ks r ok' w xs cs:=((Jdb xs.length r).weak (x:=xs) ⟨rfl,h⟩ hk).2
theorem Qss{τ:Type}{r:RT τ}{ok:Ok}{w:World}{xs:List τ}{cs:List Value}(h:Ks r ok w xs cs):∀c∈cs,c.oneCell'=true:=(Jdb xs.length r).flat (x:=xs) ⟨rfl,h⟩
def ml{τ:Type}(v:Value)(e:Nat)(r:RT τ)(xs:List τ):TL where
 blks:=fun g=>v.ownBlock=some g
 cov:=fun b _=>v.ownBlock=some b
 cb:=fun h=>h
 p:=fun ok w=>K0 v=xs.length∧∃cs,w.ownsRowS 0 e r.size v (K0 v) cs∧Ks r ok w xs cs
 keep:=fun⟨h1,cs,h2,h3⟩ hb he=>⟨h1,cs,Sf h2 hb,Fd h3 he⟩
 weak:=fun⟨h1,cs,h2,h3⟩ hk=>⟨h1,cs,h2,Xp h3 hk⟩
 lt:=fun⟨_,_,h,_⟩ g hg=>(h.lt g hg).2
theorem Ff{τ:Type}{r:RT τ}{ok:Ok}{w:World}:∀{xs:List τ} {cs:List Value},Ks r ok w xs cs→∀{i:Nat} {y:τ},xs[i]?=some y→r.rep ok w y ((cs.drop (i*r.size)).take r.size)
 | x::xs,cs,⟨c1,c2,e,h1,h2⟩,i,y,hy=>by
  subst e
  have hl:=r.len h1
  cases i with
  | zero =>
   grind
  | succ i =>
   simp at hy
   have:=Ff h2 hy
   have e:(c1++c2).drop ((i+1)*r.size)=c2.drop (i*r.size):=by
    rw[Nat.add_mul,ZN,XD,←hl,←List.drop_drop,List.drop_left,hl]
   rw[e]; exact this
theorem Jdh{τ:Type}{r:RT τ}{ok:Ok}{w:World}{e:Nat}{xs:List τ}{A:Option Addr}{m c:Nat}(h:(ml (.slice A m c) e r xs).p ok w):Qyi r ok w xs A m c:=by
 obtain⟨hl,cs,kb,hr⟩:=h
 have hm:K0 (.slice A m c)=m:=rfl
 rw[hm]at hl kb
 have zp:∀i x,xs[i]?=some x→∃ds,r.rep ok w x ds∧∀(j:Nat) u,ds[j]?=some u→cs[i*r.size+j]?=some u:=fun i x hx=>by
  refine⟨_,Ff hr hx,fun j u hu=>?_⟩
  rw[JJ]at hu
  grind
 rcases kb.2 with⟨hv,h0⟩ | ⟨g,cap,cur,fz,hv,_,_,_,hle,_⟩
 ·injection hv with e1 e2 e3
  exact⟨cs,kb.1,hl.symm,by omega,fun _=>h0,Qss hr,fun h=>absurd h (by omega),zp⟩
 ·have hg:(Value.slice A m c).ownBlock=some g:=by rw[hv]; rfl
  have wc:=kb.cells hg
  injection hv with e1 e2 e3
  exact⟨cs,kb.1,hl.symm,by omega,(fun h=>absurd (e1.symm.trans h) (by simp)),Qss hr,fun _=>⟨g,0,e1,fun j u hu=>by rw[←Hg]; grind⟩,zp⟩
theorem Qom{τ:Type}{r:RT τ}{ok:Ok}{w:World}:∀{xs:List τ} {cs:List Value},Ks r ok w xs cs→∀{i:Nat} {z:τ} {ds:List Value},i<xs.length→r.rep ok w z ds →
  Ks r ok w (xs.set i z) (cs.take (i*r.size)++ds++cs.drop (i*r.size+ds.length))
 | x::xs,cs,⟨c1,c2,e,h1,h2⟩,i,z,ds,hi,hz=>by
  subst e
  have hl:=r.len h1
  have hd:=r.len hz
  cases i with
  | zero =>
   refine⟨ds,c2,?_,hz,h2⟩
   grind
  | succ i =>
   refine⟨c1,_,?_,h1,Qom h2 (by simpa using hi) hz⟩
   have e1:(i+1)*r.size=c1.length+i*r.size:=by rw[Nat.add_mul,hl]; omega
   rw[e1,XG,List.append_assoc,List.append_assoc,List.append_assoc,JM,List.take_of_length_le (by omega)]
   grind [Nat.add_assoc,List.drop_drop,List.drop_left]
theorem Nh{τ:Type}{r:RT τ}{ok:Ok}{w:World}:∀{xs ys:List τ} {cs ds:List Value},Ks r ok w xs cs→Ks r ok w ys ds→Ks r ok w (xs++ys) (cs++ds)
 | [],ys,cs,ds,h,h2=>by grind [Ks]
 | x::xs,ys,cs,ds,⟨c1,c2,e,h1,h3⟩,h2=>by subst e; exact⟨c1,c2++ds,by rw[List.append_assoc],h1,Nh h3 h2⟩
theorem Qg6{τ:Type}{r:RT τ}{ok:Ok}{w:World}:∀(xs:List τ) (cs:List Value),cs.length=xs.length*r.size→(∀i x,xs[i]?=some x→∃ds,r.rep ok w x ds∧∀(j:Nat) u,ds[j]?=some u→cs[i*r.size+j]?=some u)→Ks r ok w xs cs
 | [],cs,hl,_=>by simp_all [Ks,QE]
 | x::xs,cs,hl,h=>by
  obtain⟨ds,hr,hd⟩:=h 0 x rfl
  have hdl:=r.len hr
  have iq:cs.length=r.size+xs.length*r.size:=by rw[hl]; grind
  refine⟨ds,cs.drop r.size,?_,hr,Qg6 xs _ (by simp; omega) fun i y hy=>?_⟩
  ·have:cs.take r.size=ds:=by
    apply ZZ
    grind
   rw[←this,List.take_append_drop]
  ·obtain⟨es,he,hc⟩:=h (i+1) y (by simpa using hy)
   grind
section
variable {P:Program} {T:Tab} {β:Nat→Nat} {X:Cx} {G:GL} {D:List DF} {H:HL} {O:List TL} {a:Act} {w w':World}
variable {ops:Array Oper} {Q:Exit→Act→World→Prop} {rest:List Oper}
theorem Sb.mget(h:Sb β X G D H O a w){τ:Type}{r:RT τ}{xs:List τ}{A:Option Addr}{m c:Nat}{e:Nat}(hm:ml (.slice A m c) e r xs∈O){j:Int}{y:τ}(hy:idx xs j=some y)(zr:0<r.size) :
  ∃g cap cur fz,A=some ⟨g,0,none⟩∧(w.heap[g]?=some (.cells cur e fz)∧Qvf fz cur.size)∧m=xs.length∧j.toNat<m∧m≤cap∧cap*r.size≤cur.size∧c=cap∧cap≤maxLen ∧
   Ks r (Jg X.ok X.w.heap.size β H O w) w xs (cur.toList.take (m*r.size)):=by
 obtain⟨⟨hl,cs,kb,hr⟩,_⟩:=h.own _ hm
 obtain⟨h0,h1⟩:=Wq hy
 have hlt:=(List.getElem?_eq_some_iff.1 h1).1
 simp only[K0]at hl kb
 rcases kb.2 with⟨hv,h0⟩ | ⟨g,cap,cur,fz,hv,_,hh,z8,hle,yy,z6,xy⟩
 ·omega
 ·injection hv with e1 e2 e3
  exact⟨g,cap,cur,fz,e1,⟨hh,z8⟩,hl,by omega,hle,z6,e3,yy,by rw[xy]; exact hr⟩
theorem Qst{cur:Array Value}{g e:Nat}{fz:Nat×Nat}(hh:w.heap[g]?=some (.cells cur e fz))(i:Nat):w.cell? ⟨g,i,none⟩=cur.toList[i]?:=by
 simp[World.cell?,hh]
theorem Q9f(L ds:List Value){a s M off:Nat}(h1:a+s≤M)(h2:off+ds.length≤s)(h3:M≤L.length) :
  ((L.take (a+off)++ds++L.drop (a+off+ds.length)).take M) =
   (L.take M).take a++(((L.drop a).take s).take off++ds++((L.drop a).take s).drop (off+ds.length))++(L.take M).drop (a+s):=by
 apply ZZ
 intro i
 simp only[List.getElem?_append,JJ,JX,List.length_append,List.length_take,List.length_drop]
 grind
theorem Sb.upd(h:Sb β X G D H O a w){O1 O2:List TL}{t t':TL}(hO:O=O1++t::O2)(mf:w'.os=w.os)(mg:w'.tape=w.tape)(uc:w'.output=w.output)(kj:w.heap.size≤w'.heap.size)
  (hblk:∀b,b<w.heap.size→¬ t.blks b→w'.heap[b]?=w.heap[b]?) (wt:∀b o,t.blks b→t.cov b o) (yq:∀g,t'.blks g→t.blks g∨w.heap.size≤g)
  (hp:Evo (Jg X.ok X.w.heap.size β H O w) w w'→(∀b o,Jg X.ok X.w.heap.size β H O w b o→Jg X.ok X.w.heap.size β H (O1++t'::O2) w' b o)→t'.p (Jg X.ok X.w.heap.size β H (O1++t'::O2) w') w') :
  Sb β X G D H (O1++t'::O2) a w':=by
 subst hO
 have ke:t∈O1++t::O2:=by simp
 have zg:=(h.own _ ke).2
 have kq:Evo (Jg X.ok X.w.heap.size β H (O1++t::O2) w) w w':=Evo.of_blocks kj fun b o hk=>hblk b hk.2.1 fun hb=>hk.2.2.2 t ke (wt b o hb)
 have kn:∀b o,Jg X.ok X.w.heap.size β H (O1++t::O2) w b o→Jg X.ok X.w.heap.size β H (O1++t'::O2) w' b o:=by
  rintro b o ⟨h1,h2,h3,h4⟩
  refine⟨h1,QC h2 kj,h3,fun u hu hc=>?_⟩
  rcases QX.1 hu with hu | hu
  ·grind
  ·rcases QJ.1 hu with rfl | hu
   ·rcases yq b (u.cb hc)with hb | hb
    ·grind
    ·omega
   grind
 have xt:=QF.1 h.dOO
 have sj:=List.pairwise_cons.1 xt.2.1
 have sn:∀u∈O1++O2,∀g,u.blks g→¬ t.blks g∧g<w.heap.size:=by
  intro u hu g hg
  refine⟨fun hb=>?_,h.olt (by rcases QX.1 hu with hu | hu<;>simp[hu]) hg⟩
  grind
 have u3:∀u∈O1++O2,∀g,u.blks g→¬ t'.blks g:=by
  grind
 refine { sz:=h.sz,df:=h.df,fr:=h.fr,pn:=h.pn,tm:=h.tm,bel:=?_,dat:=(h.dat.evo kq).weak kn,obj:=?_,own:=?_,dHH:=h.dHH,dHO:=?_,dOO:=?_ }
 ·exact h.bel.trans ⟨mf,mg,uc,kj,fun k hk hn=>hblk k (QC hk h.bel.size) fun hb=>(zg k hb).elim (fun h=>by omega) hn⟩
 ·intro p xd
  refine⟨?_,(h.obj p xd).2⟩
  rw[hblk _ (h.hlt xd) (h.dHO p xd t ke)]
  exact(h.obj p xd).1
 ·intro u hu
  have keep:∀u∈O1++O2,u.p (Jg X.ok X.w.heap.size β H (O1++t'::O2) w') w'∧∀g,u.blks g→X.mine g:=by
   intro u hu
   have ud:u∈O1++t::O2:=by rcases QX.1 hu with hu | hu<;>simp[hu]
   exact⟨u.weak (u.keep (h.own u ud).1 (fun g hg=>hblk g (sn u hu g hg).2 (sn u hu g hg).1) kq) kn,(h.own u ud).2⟩
  rcases QX.1 hu with hu | hu
  ·grind
  ·rcases QJ.1 hu with rfl | hu
   ·exact⟨hp kq kn,fun g hg=>(yq g hg).elim (zg g) fun hb=>.inl (Nat.le_trans h.bel.size hb)⟩
   grind
 ·intro p xd u hu
  rcases QX.1 hu with hu | hu
  ·exact h.dHO p xd u (by simp[hu])
  ·rcases QJ.1 hu with rfl | hu
   ·intro hb
    rcases yq _ hb with hb | hb
    ·exact h.dHO p xd t ke hb
    ·have:=h.hlt xd; omega
   ·exact h.dHO p xd u (by simp[hu])
 ·refine QF.2 ⟨xt.1,List.pairwise_cons.2 ⟨fun u hu g hg xa=>u3 u (by simp[hu]) g xa hg,sj.2⟩,?_⟩
  grind
theorem Sb.mset(h:Sb β X G D H O a w)(O1 O2:List TL){τ:Type}{r:RT τ}{xs:List τ}{m c g:Nat}{j:Int}{y z:τ}{e:TypeId}
  (hO:O=O1++ml (.slice (some ⟨g,0,none⟩) m c) e r xs::O2) (hy:idx xs j=some y) (zr:0<r.size) {off:Nat} {ds:List Value} (ym:off+ds.length≤r.size) (h1:∀d∈ds,d.oneCell'=true)
  (hz:∀es,r.rep (Jg X.ok X.w.heap.size β H O w) w y es→r.rep (Jg X.ok X.w.heap.size β H O w) w z (es.take off++ds++es.drop (off+ds.length))) :
  ∃cur fz,(w.heap[g]?=some (.cells cur e fz)∧Qvf fz cur.size)∧j.toNat*r.size+off+ds.length≤cur.size ∧
   Sb β X G D H (O1++ml (.slice (some ⟨g,0,none⟩) m c) e r (xs.set j.toNat z)::O2) a (w.setRow g (cur.toList.take (j.toNat*r.size+off)++ds++cur.toList.drop (j.toNat*r.size+off+ds.length)).toArray):=by
 have ke:ml (.slice (some ⟨g,0,none⟩) m c) e r xs∈O:=by rw[hO]; simp
 obtain⟨g',cap,cur,fz,hA,⟨hh,z8⟩,hm,hj,hle,z6,hc,yy,hr⟩:=h.mget ke hy zr
 injection hA with hA; injection hA with hA; subst hA
 have hj1:(j.toNat+1)*r.size≤m*r.size:=QD _ hj
 have hj2:m*r.size≤cap*r.size:=QD _ hle
 rw[Nat.add_mul]at hj1
 have xf:cap*r.size≤cur.toList.length:=by simpa using z6
 have hlen:j.toNat*r.size+off+ds.length≤cur.size:=by omega
 refine⟨cur,fz,⟨hh,z8⟩,hlen,?_⟩
 have wu:=setRow_heap w g cur (cur.toList.take (j.toNat*r.size+off)++ds++cur.toList.drop (j.toNat*r.size+off+ds.length)).toArray e _ hh
 refine h.upd (t':=ml (.slice (some ⟨g,0,none⟩) m c) e r (xs.set j.toNat z)) hO rfl rfl rfl (by simp) (fun b hb hn=>setRow_other _ _ _ _ fun e=>hn (by subst e; rfl)) (fun b o hb=>hb) (fun g hg=>.inl hg) fun kq kn=>?_
 have zp:=Ff hr (Wq hy).2
 have ir:(cur.toList.take (m*r.size)).drop (j.toNat*r.size)=(cur.toList.drop (j.toNat*r.size)).take (m*r.size - j.toNat*r.size):=by rw[List.drop_take]
 have e1:((cur.toList.take (m*r.size)).drop (j.toNat*r.size)).take r.size=(cur.toList.drop (j.toNat*r.size)).take r.size:=by
  rw[ir,XY]; congr 1; omega
 rw[e1]at zp
 have u3:=hz _ zp
 have hL:((cur.toList.drop (j.toNat*r.size)).take r.size).length=r.size:=r.len zp
 refine⟨by simp[K0,hm],_,⟨?_,.inr ⟨g,cap,_,fz,by rw[hc]; rfl,QM _,wu,by rw[JF,List.length_append,List.length_append,List.length_take,List.length_drop,Nat.min_eq_left (by omega),show j.toNat*r.size+off+ds.length+(cur.toList.length - (j.toNat*r.size+off+ds.length))=cur.size by simp; omega]; exact z8,hle,yy,by rw[JF,List.length_append,List.length_append,List.length_take,List.length_drop]; omega,rfl⟩⟩,?_⟩
 ·grind [K0,List.length_take,List.length_append,List.length_drop]
 ·have h2:=Qom (Xp (Fd hr kq) kn) (i:=j.toNat) (z:=z) (by omega) (r.weak (r.evo u3 kq) kn)
  simp only[K0]
  have yd:=Q9f cur.toList ds (a:=j.toNat*r.size) (s:=r.size) (M:=m*r.size) (off:=off) (by omega) ym (by omega)
  rw[yd]
  have iu:(List.take off (List.take r.size (List.drop (j.toNat*r.size) cur.toList))++ds++List.drop (off+ds.length) (List.take r.size (List.drop (j.toNat*r.size) cur.toList))).length=r.size:=by
   simp; omega
  rw[iu]at h2
  exact h2
def mkL{α:Type}(bytes:Nat)(l c:Int)(z:α):Option (List α):=if 0≤l∧l≤c∧(bytes:Int)*c≤281474976710656 then some (List.replicate l.toNat z)else none
theorem Qon(zc:List Value):∀l:Nat,((List.range (l*zc.length)).map fun j=>zc.getD (j % zc.length) undef)=(List.replicate l zc).flatten
 | 0=>by simp
 | l+1=>by
  rw[Nat.add_mul,ZN,List.range_add,QB,Qon zc l,List.replicate_succ',ZC]
  congr 1
  simp only[List.map_map,List.flatten_cons,List.flatten_nil,QH]
  apply List.ext_getElem
  ·simp
  simp_all [List.getElem_map,List.getElem_range,Function.comp,Nat.mul_comm,Nat.mul_add_mod,Nat.mod_eq_of_lt]
theorem Qyk{τ:Type}{r:RT τ}{ok:Ok}{z:τ}{zc:List Value}(h:r.rep ok w z zc):∀l,Ks r ok w (List.replicate l z) (List.replicate l zc).flatten
 | 0=>by simp[Ks]
 | l+1=>⟨zc,(List.replicate l zc).flatten,by grind,h,Qyk h l⟩
theorem Q9g(hT:Q6 P T)(h:Sb β X G D H O a w){t:TypeId}{lo co:Operand}{d:Nat}{ps:String}{af:Array Edge}{ty:TypeId}{gd:Option (Nat×Bool)}
  (hg:Bk ops G ⟨some d,.makeSlice t lo co,ty,ps,af,gd⟩=some true) (hlt:okD X d=true)
  {τ:Type} {r:RT τ} {z:τ} {zs:List τ} {kl kc:IntKind} {l c:Int} {e:TypeId} {te ee:TE} (ht:Qh T t=some te) (kr:te.d=.slice e) (he:Qh T e=some ee) (hs:ee.size=r.size)
  (y8:Nat.beq (Qu ee.z).length ee.size=true) (yi:Nat.ble 1 ee.bytes=true) (hz:∀ok w,r.rep ok w z (Qu ee.z))
  (hl:gv G lo=some (.v (.int kl l))) (hc:gv G co=some (.v (.int kc c))) (qi:mkL ee.bytes l c z=some zs)
  (hk:∀b a' w',Sb β X (Se G d (.v (.slice (some ⟨b,0,none⟩) zs.length c.toNat))) D H (ml (.slice (some ⟨b,0,none⟩) zs.length c.toNat) e r zs::O) a' w'→wpList P ops Q rest a' w') :
  wpList P ops Q (⟨some d,.makeSlice t lo co,ty,ps,af,gd⟩::rest) a w:=by
 unfold mkL at qi
 split at qi
 ·rename_i hcd
  obtain⟨h0,h1,h2⟩:=hcd
  have y9:zs=List.replicate l.toNat z:=(Option.some.inj qi).symm
  have hlen:zs.length=l.toNat:=by rw[y9]; simp
  have hu:P.underlying t=some (.slice e):=by rw[(Jq hT ht).2,kr]
  obtain⟨i,hi,vy,b9,uw⟩:=Wp hT he
  have ub:1≤ee.bytes:=QV yi
  have hc63:c≤281474976710656:=by
   have:(1:Int)*c≤(ee.bytes:Int)*c:=XH (by omega) (by omega)
   omega
  have qm:=Nat.eq_of_beq_eq_true y8
  have hr:=run_make (P:=P) w t e i ee.z hu hi vy kl kc l c h0 h1 (by rw[uw]; exact h2) (by omega)
  have ka:(execOp a.eval ⟨some d,.makeSlice t lo co,ty,ps,af,gd⟩).run P w=.ok (.value (.slice (some ⟨w.heap.size,0,none⟩) zs.length c.toNat)) (w.alloc (.cells (madeCells ee.z.cells (c.toNat*i.size)) e)):=by
   unfold execOp
   simp only[h.ev hl,h.ev hc,D5]
   simp[hr,hlen]
  refine Jr (Ka h hg) (Yr ka ?_)
  have hb:Below w.heap.size w (w.alloc (.cells (madeCells ee.z.cells (c.toNat*i.size)) e)):=(Below.refl _ _).alloc (QU _) _
  have yk:(madeCells ee.z.cells (c.toNat*i.size)).toList=(List.replicate c.toNat (Qu ee.z)).flatten:=by
   rw[←Qon,qm,b9]
   unfold madeCells
   rw[Vk]at qm ⊢
   simp only[Array.toList_map,Array.toList_range]
   grind [List.map_congr_left,Nat.eq_zero_or_pos,Nat.mod_lt,List.getElem?_eq_getElem]
  refine hk _ _ _ ((h.allocTL hb (t:=ml (.slice (some ⟨w.heap.size,0,none⟩) zs.length c.toNat) e r zs) (fun g hg=>?_) ⟨rfl,(List.replicate l.toNat (Qu ee.z)).flatten,⟨?_,.inr ⟨w.heap.size,c.toNat,_,(0,0),rfl,QM _,heap_alloc_new w _,.inl rfl,?_,?_,?_,?_⟩⟩,?_⟩).put hlt (.v _))
  ·have hg:some w.heap.size=some g:=hg
   grind
  ·simp_all [K0]
  ·grind [K0]
  ·rw[I9]; omega
  ·grind [Nat.le_of_eq,size_madeCells]
  ·simp only[K0]
   rw[yk,hlen]
   have e1:c.toNat=l.toNat+(c.toNat - l.toNat):=by omega
   rw[e1,←List.replicate_append_replicate,ZC]
   have e2:l.toNat*r.size=(List.replicate l.toNat (Qu ee.z)).flatten.length:=by simp[qm,hs]
   rw[e2,List.take_left]
  grind [Qyk]
 ·cases qi
end
end Gd

/- Rows that are appended to, frozen, lent to a call. -/
namespace Gd
open Go Go.RowKit
set_option linter.unusedVariables false
set_option linter.unusedSimpArgs false
section
variable {P:Program} {T:Tab} {β:Nat→Nat} {X:Cx} {G:GL} {D:List DF} {H:HL} {O:List TL} {a:Act} {w w':World}
variable {ops:Array Oper} {Q:Exit→Act→World→Prop} {rest:List Oper}
theorem Sb.addNilM(h:Sb β X G D H O a w)(e:Nat){τ:Type}(r:RT τ):Sb β X G D H (ml (.slice none 0 0) e r []::O) a w :=
 h.allocTL (Below.refl _ _) (fun g hg=>by have hg:(none:Option Nat)=some g:=hg; cases hg) ⟨rfl,[],World.ownsRowS_nil _ _ _ _,rfl⟩
theorem Sb.freeze(h:Sb β X G D H O a w){τ:Type}{r:RT τ}{xs:List τ}{A:Option Addr}{c:Nat}{e:Nat}{O2:List TL}(hO:O=ml (.slice A xs.length c) e r xs::O2)(zr:Nat.ble 1 r.size=true) :
  Sb β X G (DF.v (rSl r) xs (.slice A xs.length c)::D) H (tl (.slice A xs.length c) e r.size::O2) a w:=by
 subst hO
 have ke:ml (.slice A xs.length c) e r xs∈ml (.slice A xs.length c) e r xs::O2:=.head _
 obtain⟨⟨hl,cs,kb,hr⟩,zg⟩:=h.own _ ke
 have kn:∀b o,Jg X.ok X.w.heap.size β H (ml (.slice A xs.length c) e r xs::O2) w b o→Jg X.ok X.w.heap.size β H (tl (.slice A xs.length c) e r.size::O2) w b o:=by
  rintro b o ⟨h1,h2,h3,h4⟩
  refine⟨h1,h2,h3,fun u hu hc=>?_⟩
  rcases QJ.1 hu with rfl | hu
  ·exact h4 _ (.head _) hc.1
  grind
 have xt:=List.pairwise_cons.1 h.dOO
 refine { sz:=h.sz,df:=h.df,fr:=h.fr,pn:=h.pn,tm:=h.tm,bel:=h.bel,dat:=⟨?_,h.dat.weak kn⟩,obj:=h.obj,own:=fun u hu=>?_,dHH:=h.dHH,dHO:=fun p hp u hu=>?_,dOO:=List.pairwise_cons.2 ⟨fun u hu g hg=>xt.1 u hu g hg,xt.2⟩ }
 ·refine Zr.2 ⟨A,xs.length,c,rfl,rfl,?_,fun h0=>?_⟩
  ·rcases kb.2 with⟨hv,h0⟩ | ⟨g,cap,cur,fz,hv,_,_,_,hle,_⟩
   ·grind
   grind
  ·rcases kb.2 with⟨hv,h1⟩ | ⟨g,cap,cur,fz,hv,_,hh,z8,hle,yy,z6,xy⟩
   ·grind
   ·injection hv with e1 e2 e3
    simp only[K0]at hle xy
    refine⟨g,0,e1,fun i x hx=>?_⟩
    have hi:=(List.getElem?_eq_some_iff.1 hx).1
    have zp:=Ff hr hx
    refine⟨_,r.weak zp kn,fun j u hu=>?_⟩
    have hj:j<r.size:=by have:=(List.getElem?_eq_some_iff.1 hu).1; rw[r.len zp]at this; exact this
    have qo:(Value.slice A xs.length c).ownBlock=some g:=by rw[e1]; rfl
    rw[QK]
    refine⟨⟨X.mine_ok (zg g qo) _,Y9 hh,fun p hp e2=>h.dHO p hp _ ke (by rw[e2]; exact qo),fun u' ud hc=>?_⟩,?_⟩
    ·rcases QJ.1 ud with rfl | ud
     ·have:=hc.2
      grind
     ·exact xt.1 u' ud g qo (u'.cb hc)
    grind [Qst,List.getElem?_take_of_lt]
 ·rcases QJ.1 hu with rfl | hu
  ·exact⟨⟨cs,kb⟩,zg⟩
  ·exact⟨u.weak (h.own u (.tail _ hu)).1 kn,(h.own u (.tail _ hu)).2⟩
 ·rcases QJ.1 hu with rfl | hu
  ·exact fun hg=>(h.dHO p hp _ ke) hg
  ·exact h.dHO p hp u (.tail _ hu)
theorem Qg7(hT:Q6 P T)(h:Sb β X G D H O a w)(O1 O2:List TL){t:TypeId}{s x:Operand}{d:Nat}{ps:String}{af:Array Edge}{ty:TypeId}{gd:Option (Nat×Bool)}
  (hg:Bk ops G ⟨some d,.call ⟨.builtin .append,⟨[s,x]⟩,⟨[t,t]⟩⟩,ty,ps,af,gd⟩=some true) (hlt:okD X d=true)
  {τ:Type} {r:RT τ} {xs ys zs:List τ} {A:Option Addr} {A2:Option Addr} {m c m2 c2:Nat} {e:TypeId} {te ee:TE} (ht:Qh T t=some te) (kr:te.d=.slice e) (he:Qh T e=some ee) (hs:ee.size=r.size)
  (hz:Nat.beq (Qu ee.z).length ee.size=true) (kj:Nat.ble 1 ee.size=true) (yi:Nat.ble 1 ee.bytes=true)
  (hO:O=O1++ml (.slice A m c) e r xs::O2) (wy:gv G s=some (.v (.slice A m c))) (xx:gv G x=some (.v (.slice A2 m2 c2)))
  (hDy:Qyi r (Jg X.ok X.w.heap.size β H O w) w ys A2 m2 c2) (zn:app ee.bytes xs ys=some zs)
  (hk:∀A' c' a' w',Sb β X (Se G d (.v (.slice A' zs.length c'))) D H (O1++ml (.slice A' zs.length c') e r zs::O2) a' w'→wpList P ops Q rest a' w') :
  wpList P ops Q (⟨some d,.call ⟨.builtin .append,⟨[s,x]⟩,⟨[t,t]⟩⟩,ty,ps,af,gd⟩::rest) a w:=by
 obtain⟨zd,rfl⟩:=Qi6 zn
 have ke:ml (.slice A m c) e r xs∈O:=by rw[hO]; simp
 obtain⟨⟨hl,xs0,kb,hr⟩,zg⟩:=h.own _ ke
 obtain⟨csy,vz,va,ik,hA2,sc,mb,mc⟩:=hDy
 have y8:=Nat.eq_of_beq_eq_true hz
 have ua:0<ee.size:=QV kj
 have ub:0<ee.bytes:=QV yi
 have yw:∀ad,A2=some ad→∀j u,csy[j]?=some u→w.cell? (ad.add j)=some u:=by
  intro ad had j u hu
  have hj:=(List.getElem?_eq_some_iff.1 hu).1
  have tn:0<m2:=by
   grind
  grind [Hg]
 simp only[K0]at kb hl
 rw[←hs]at kb
 obtain⟨v',w1,ka,zl,kg,hblk⟩:=Qfk (P:=P) (w:=w) (ty:=ty) hT ht kr he y8 ua ub kb (QM _) (k:=m2) (c:=c2) (A:=A2) (news:=csy) (by rw[hs]; exact vz) hA2 yw sc (by rw[hl,←va]; exact zd)
 have yc:(execOp a.eval ⟨some d,.call ⟨.builtin .append,⟨[s,x]⟩,⟨[t,t]⟩⟩,ty,ps,af,gd⟩).run P w=.ok (.value v') w1:=by
  unfold execOp
  have hm:(Array.mk [s,x]).map a.eval=⟨[.slice A m c,.slice A2 m2 c2]⟩:=by simp[h.ev wy,h.ev xx,D5]
  simp_all [resolve,invoke,builtin]
 have yj:∃A' c',v'=.slice A' (m+m2) c':=by
  rcases zl.2 with⟨rfl,h0⟩ | ⟨g,cap,cur,fz,rfl,_⟩
  ·grind
  grind
 obtain⟨A',c',rfl⟩:=yj
 have hlen:m+m2=(xs++ys).length:=by rw[List.length_append,hl,va]
 refine Jr (Ka h hg) (Yr yc ?_)
 have hS:Sb β X G D H (O1++ml (.slice A' (m+m2) c') e r (xs++ys)::O2) a w1:=by
  refine h.upd hO kg.os kg.tape kg.output kg.size (fun b hb hn=>kg.block b hb fun e=>hn e.symm) (fun b o hb=>hb) (fun g hg=>?_) fun kq kn=>?_
  ·rcases hblk with xb | ⟨xb,_⟩
   ·exact .inl (by have hg:(Value.slice A' (m+m2) c').ownBlock=some g:=hg; rw[xb]at hg; exact hg)
   ·have hg:(Value.slice A' (m+m2) c').ownBlock=some g:=hg
    rw[xb]at hg; grind
  ·refine⟨hlen,xs0++csy,by rw[←hs]; exact zl,Nh (Xp (Fd hr kq) kn) (Xp (Fd ?_ kq) kn)⟩
   grind [Qg6]
 have:=hk A' c' (a.put (some d) (.slice A' (m+m2) c')) w1
 rw[←hlen]at this
 exact this (hS.put hlt (.v _))
end
end Gd
namespace Gd
open Go Go.RowKit
section
variable {P:Program} {T:Tab} {β:Nat→Nat} {X:Cx} {G:GL} {D:List DF} {H:HL} {O:List TL} {a:Act} {w w':World}
variable {ops:Array Oper} {Q:Exit→Act→World→Prop} {rest:List Oper}
def Jm7(v:Value):List Nat:=match v.ownBlock with
 | some g=>[g]
 | none=>[]
theorem Qyl{v:Value}{g:Nat}:g∈Jm7 v↔v.ownBlock=some g:=by
 unfold Jm7
 grind
def Qla(Ts:List TL)(L:List Nat)(ok:Ok)(w:World):Prop :=
 (∀t∈Ts,t.p ok w∧(∀g,t.blks g→g∈L)∧∀g o,t.blks g→¬ ok g o)∧(Ts.Pairwise fun s t=>∀g,s.blks g→¬ t.blks g)∧∀g∈L,∃t∈Ts,t.blks g
theorem Q9h{f:FuncId}{fn:Func}{c:Code}{vs:List Value}{R:Value→World→Prop}{ok:Ok}{n:Nat}{L:List Nat}{O:List TL}(kn:∀b o,ok b o→b<w.heap.size)
  (hf:P.funcs[f]?=some fn) (hb:fn.body=some c) (hn:fn.ntmps=n) (hle:Nat.ble vs.length n=true) {D:List DF} (hD:Qgz ok w D) (hO:Qla O L ok w)
  (h:∀a,Sb (fun _=>0) (cxL L n ok w) (Qye vs 0) D [] O a w→c.wp P (bodyPost P fn (Qvj L w R)) a w):Calls P f ⟨vs⟩ w (Qvj L w R):=by
 refine calls_of_wp hf hb (h _ ?_)
 have hle':=QV hle
 have hk:∀b o,ok b o→Jg (okL L ok) w.heap.size (fun _=>0) [] O w b o:=fun b o kp=>⟨.inl (.inl kp),kn b o kp,by simp,fun t ht hc=>(hO.1 t ht).2.2 b o (t.cb hc) kp⟩
 refine { sz:=by grind,df:=rfl,fr:=by simp,pn:=by simp,tm:=?_,bel:=Uv.refl _ _ _,dat:=hD.weak hk,obj:=by simp,own:=fun t ht=>⟨t.weak (hO.1 t ht).1 hk,fun g hg=>.inr ((hO.1 t ht).2.1 g hg)⟩,dHH:=by simp,dHO:=by simp,dOO:=hO.2.1 }
 intro p hp
 obtain⟨j,v,rfl,hv⟩:=Qyf hp
 have hj:=(List.getElem?_eq_some_iff.1 hv).1
 simp_all [QK,D5,XQ]
theorem Sb.melt0{A:Option Addr}{c e:Nat}{τ:Type}{r:RT τ}{O2:List TL}(h:Sb β X G D H (tl (.slice A 0 c) e r.size::O2) a w):Sb β X G D H (ml (.slice A 0 c) e r []::O2) a w:=by
 have kn:∀b o,Jg X.ok X.w.heap.size β H (tl (.slice A 0 c) e r.size::O2) w b o→Jg X.ok X.w.heap.size β H (ml (.slice A 0 c) e r []::O2) w b o:=by
  rintro b o ⟨h1,h2,h3,h4⟩
  refine⟨h1,h2,h3,fun u hu hc=>?_⟩
  rcases QJ.1 hu with rfl | hu
  ·exact h4 _ (.head _) ⟨hc,by simp[K0]⟩
  grind
 obtain⟨⟨cs,kb⟩,zg⟩:=h.own _ (.head _)
 have xt:=List.pairwise_cons.1 h.dOO
 have z6:cs=[]:=by
  have:=kb.1
  simp_all [K0,XI,QE]
 refine { sz:=h.sz,df:=h.df,fr:=h.fr,pn:=h.pn,tm:=h.tm,bel:=h.bel,dat:=h.dat.weak kn,obj:=h.obj,own:=fun u hu=>?_,dHH:=h.dHH,dHO:=fun p hp u hu=>?_,dOO:=List.pairwise_cons.2 ⟨fun u hu g hg=>xt.1 u hu g hg,xt.2⟩ }
 ·rcases QJ.1 hu with rfl | hu
  ·exact⟨⟨rfl,cs,kb,by subst z6; rfl⟩,zg⟩
  ·exact⟨u.weak (h.own u (.tail _ hu)).1 kn,(h.own u (.tail _ hu)).2⟩
 ·rcases QJ.1 hu with rfl | hu
  ·exact fun hg=>h.dHO p hp _ (.head _) hg
  ·exact h.dHO p hp u (.tail _ hu)
end
end Gd

/- Results of a call's own, as rows that will be written: for elements that hold no addresses. -/
namespace Gd
open Go Go.RowKit
set_option linter.unusedVariables false
set_option linter.unusedSimpArgs false
section
variable {P:Program} {T:Tab} {β:Nat→Nat} {X:Cx} {G:GL} {D:List DF} {H:HL} {O:List TL} {a:Act} {w w':World}
variable {ops:Array Oper} {Q:Exit→Act→World→Prop} {rest:List Oper}
end
end Gd

/- From a statement's arguments to typed values, and back to the statement. -/
namespace Gd
open Go Go.RowKit Go.WideShapes Go.ChangeShapes
set_option linter.unusedVariables false
set_option linter.unusedSimpArgs false
def Qsu{τ:Type}(P:Program)(r:RT τ)(t:TypeId)(good:τ→Prop):Prop :=
 P.cellsOf t=r.size∧(∀{w:World} {rc:Reach} {b:Nat} {v:Value},Value.okWide P w rc b t v→(r.agg=true→∃cs,v=.agg cs)∧(r.agg=false→∃c,v.cells=#[c]∧v=c)) ∧
 ∀{H:Type} (enc:TypeId×Value→H) (w:World) (n:Nat) (cs:List Value) (x:DataW H×List MemPlace),
  DataW.trod enc P w 0 (fun _=>true) true n t cs=some x→∃y,r.rep (lt w) w y cs∧good y
def Jop(k:IntKind)(n:Int):Prop:=k.min≤n∧n≤k.max
def Joq(s:Str):Prop:=s.length≤maxLen
def Qym{τ:Type}(g:τ→Prop)(l:List τ):Prop:=l.length≤maxLen∧∀x∈l,g x
section
variable {P:Program}
theorem Qsu.fld{τ:Type}{r:RT τ}{t:TypeId}{g:τ→Prop}(ho:Qsu P r t g){H:Type}{enc:TypeId×Value→H}{w:World}{n:Nat}{cs:List Value}{fs:Array Field}{xs:List (DataW H×List MemPlace)}
  (hlen:xs.length=fs.size) (hf:∀(i:Nat) (f:Field),fs[i]?=some f→DataW.trod enc P w 0 (fun _=>true) true n f.type ((cs.drop f.offset).take (P.cellsOf f.type))=xs[i]?)
  (i:Nat) (o:Nat) {f:Field} (hi:fs[i]?=some f) (ht:f.type=t) (qs:f.offset=o):∃y,r.rep (lt w) w y ((cs.drop o).take r.size)∧g y:=by
 have h1:=hf i f hi
 have hlt:=(Array.getElem?_eq_some_iff.1 hi).1
 rw[List.getElem?_eq_getElem (by omega),ht,qs,ho.1]at h1
 exact ho.2.2 enc w n _ _ h1
end
section
variable {H:Type} {enc:TypeId×Value→H} {P:Program} {W:World} {base:Nat} {vs:List String}
theorem Qew(hl:laidOutB P=true){W':World}{sp:Nat→Bool}:∀{ts:List TypeId} {vs:List Value} {ds:List (DataW H)} {ps:List MemPlace},
  (ts.all fun t=>P.readableRec t&&decide (t<P.types.size))=true→DataW.TrodAll enc P W 0 (fun _=>true) true ts vs ds ps→(∀p∈ps,W.sameAt W' p)→(∀p∈ps,sp p.block=true)→DataW.TrodAll enc P W' 0 sp true ts vs ds ps
 | [],[],[],_,_,h,_,_=>h
 | t::ts,v::vs,d::ds,ps,hr,⟨p,q,h,hs,e⟩,h1,h2=>by
  subst e
  simp only[XX,QQ,decide_eq_true_eq]at hr
  exact⟨p,q,WideElems.Trod_stays hl hr.1.1 hr.1.2 h (fun x hx=>h1 x (QX.2 (.inl hx))) (fun x hx=>h2 x (QX.2 (.inl hx))),
   Qew hl hr.2 hs (fun x hx=>h1 x (QX.2 (.inr hx))) (fun x hx=>h2 x (QX.2 (.inr hx))),rfl⟩
theorem Qlb{w:World}{sp:Nat→Bool}{hd:Bool}:∀{ts:List TypeId} {vs:List Value} {ds:List (DataW H)} {ps:List MemPlace},DataW.TrodAll enc P w base sp hd ts vs ds ps→ds.length=ts.length
 | [],[],[],_,_=>rfl
 | _::_,_::_,_::_,_,⟨_,_,_,hs,_⟩=>congrArg (·+1) (Qlb hs)
theorem Jdi{f:FuncId}{fn:Func}{s:ChangeSpec}{args:Array Value}{ds gs:List (DataW H)}{before:List MemPlace}{tb:TypeId}
  (xp:fn.resultTypes=#[tb]) (hb:P.underlying tb=some .bool) (hv:s.vars=[]) (iw:laidOutB P=true)
  (iy:(fn.params.toList.all fun t=>P.readableRec t&&decide (t<P.types.size))=true)
  (hspec:∀d:List (DataW H),d.length=fn.params.size→s.fn H d={ results:=[.lit (.bool true)],args:=d })
  (hW:DataW.Whole enc P fn.params.toList s.vars false W args.toList ds gs before)
  (yn:Calls P f args W (Ret W (R1 Qx6 (lt W) W true))) :
  Calls P f args W fun e W'=>∃v,e=.returned v∧s.post enc P fn false true false false W args v W':=by
 have hW':=hW
 obtain⟨p,q,hA,hV,rfl,z8,ye⟩:=hW
 rw[hv]at hV
 obtain⟨rfl,rfl⟩:=trodVars_none hV
 have hlen:=Qlb hA
 have hs:s.fn H (ds++[])={ results:=[.lit (.bool true)],args:=ds }:=by
  rw[QH]; grind
 refine yn.mono ?_
 rintro e W' ⟨v,rfl,hr,zo⟩
 have zo:=zo.nil
 obtain rfl:=Qoc.1 hr
 simp only[QH]at hW'
 have hlt:∀p'∈p,p'.block<W.heap.size:=fun p' hp=>hW'.lt p' hp
 refine⟨_,rfl,?_⟩
 refine⟨ds,[],p,[],p,[],hW',?_,?_,?_,World.keptBut_mono (fun p' hp=>⟨hp,by simpa using hp⟩) (zo.frame (·∈p)),fun h=>by cases h⟩
 ·rw[hs,xp]
  exact trodAll_mk1 (shut_bool hb _)
 ·rw[hs]
  exact Qew iw iy hA (fun x hx=>zo.same (hlt x hx)) (fun x hx=>by grind)
 ·rw[hs,hv]
  rfl
end
end Gd

/- Plain facts on the functions that the texts are written with. -/
namespace Gd
open Go
set_option linter.unusedVariables false
set_option linter.unusedSimpArgs false
theorem Qx{n:Int}(h0 : -9223372036854775808≤n)(h1:n<9223372036854775808):IntKind.wrap .i64 n=n:=by
 grind [IntKind.wrap,Int,IntKind.bits,IntKind.signed]
theorem Q9i(n:Int):IntKind.wrap .i64 n=(if(9223372036854775808:Int)≤n % 18446744073709551616 then n % 18446744073709551616 - 18446744073709551616 else n % 18446744073709551616):=by
 simp[IntKind.wrap,IntKind.bits,IntKind.signed]
theorem Jih{α:Type}{l:List α}{i:Nat}{x:α}(h:l[i]?=some x):idx l (i:Int)=some x:=by
 simp[idx,h]
end Gd

/- Types of data, abstract values, what they mean. -/
namespace Gx
open Go Go.RowKit Gd
set_option linter.unusedVariables false
set_option linter.unusedSimpArgs false
inductive Kb(α:Type) where
 | mk (x:α) (ks:List (Kb α))
def Kb.x{α:Type}:Kb α→α
 | .mk x _=>x
def Kb.ks{α:Type}:Kb α→List (Kb α)
 | .mk _ ks=>ks
inductive Ty where
 | int (k:IntKind) | bool | str
 | sl (e:Ty) | arr (n:Nat) (e:Ty)
 | unit | pr (f r:Ty) | st (fs:Ty) | ref | rose (fs:Ty)
@[reducible] def Ty.i:Ty:=.int .i64
@[reducible] def Ty.De:Ty→Type
 | .int _=>Int | .bool=>Bool | .str=>Str
 | .sl e=>List e.De | .arr _ e=>List e.De
 | .unit=>Unit | .pr f r=>f.De×r.De | .st fs=>fs.De | .ref=>Unit | .rose fs=>Kb fs.De
def Ty.beq:Ty→Ty→Bool
 | .int a,.int b=>Pt a b
 | .bool,.bool=>true
 | .str,.str=>true
 | .sl a,.sl b=>Ty.beq a b
 | .arr n a,.arr m b=>Nat.beq n m&&Ty.beq a b
 | .unit,.unit=>true
 | .pr a b,.pr c d=>Ty.beq a c&&Ty.beq b d
 | .st a,.st b=>Ty.beq a b
 | .ref,.ref=>true
 | .rose a,.rose b=>Ty.beq a b
 | _,_=>false
theorem Ty.beq_eq:∀{a b:Ty},Ty.beq a b=true→a=b
 | .int a,b,h=>by cases b<;>simp[Ty.beq]at h; rw[Cl h]
 | .bool,b,h=>by cases b<;>simp[Ty.beq]at h; rfl
 | .str,b,h=>by cases b<;>simp[Ty.beq]at h; rfl
 | .sl a,b,h=>by cases b<;>simp[Ty.beq]at h; rw[Ty.beq_eq h]
 | .arr n a,b,h=>by cases b<;>simp[Ty.beq]at h; rw[h.1,Ty.beq_eq h.2]
 | .unit,b,h=>by cases b<;>simp[Ty.beq]at h; rfl
 | .pr a c,b,h=>by cases b<;>simp[Ty.beq]at h; rw[Ty.beq_eq h.1,Ty.beq_eq h.2]
 | .st a,b,h=>by cases b<;>simp[Ty.beq]at h; rw[Ty.beq_eq h]
 | .ref,b,h=>by cases b<;>simp[Ty.beq]at h; rfl
 | .rose a,b,h=>by cases b<;>simp[Ty.beq]at h; rw[Ty.beq_eq h]
theorem Ty.beq_refl:∀a:Ty,Ty.beq a a=true
 | .int k=>by cases k<;>rfl
 | .bool=>rfl | .str=>rfl | .unit=>rfl
 | .sl a=>Ty.beq_refl a
 | .arr n a=>by simp[Ty.beq,Ty.beq_refl a,Nat.beq_refl]
 | .pr a b=>by simp[Ty.beq,Ty.beq_refl a,Ty.beq_refl b]
 | .st a=>Ty.beq_refl a
 | .ref=>rfl
 | .rose a=>Ty.beq_refl a
def Ty.cast(a b:Ty)(x:a.De):Option b.De:=if h:Ty.beq a b=true then some (Ty.beq_eq h▸x)else none
theorem Ty.cast_ok{a b:Ty}{x:a.De}{y:b.De}(h:Ty.cast a b x=some y):∃e:a=b,y=e▸x:=by
 grind [Ty.cast,Ty.beq_eq,Option.some.inj]
def Jor:RT Unit where
 size:=0
 agg:=true
 rep:=fun _ _ _ cs=>cs=[]
 len:=by grind
 one:=fun h=>by cases h
 flat:=by grind
 evo:=fun h _=>h
 weak:=fun h _=>h
def Jkk{τ σ:Type}(r:RT τ)(s:RT σ):RT (τ×σ) where
 size:=r.size+s.size
 agg:=true
 rep:=fun ok w x cs=>∃c1 c2,cs=c1++c2∧r.rep ok w x.1 c1∧s.rep ok w x.2 c2
 len:=by rintro _ _ x cs ⟨c1,c2,rfl,h1,h2⟩; simp[r.len h1,s.len h2]
 one:=fun h=>by cases h
 flat:=by
  rintro _ _ x cs ⟨c1,c2,rfl,h1,h2⟩ c hc
  rcases QX.1 hc with hc | hc
  ·exact r.flat h1 c hc
  ·exact s.flat h2 c hc
 evo:=by rintro _ _ _ x cs ⟨c1,c2,rfl,h1,h2⟩ he; exact⟨c1,c2,rfl,r.evo h1 he,s.evo h2 he⟩
 weak:=by rintro _ _ _ x cs ⟨c1,c2,rfl,h1,h2⟩ he; exact⟨c1,c2,rfl,r.weak h1 he,s.weak h2 he⟩
def Jos{τ:Type}(r:RT τ):RT τ where
 size:=r.size
 agg:=true
 rep:=r.rep
 len:=r.len
 one:=fun h=>by cases h
 flat:=r.flat
 evo:=r.evo
 weak:=r.weak
def Jot:RT Unit where
 size:=1
 agg:=false
 rep:=fun _ _ _ _=>False
 len:=fun h=>h.elim
 one:=fun _=>rfl
 flat:=fun h=>h.elim
 evo:=fun h _=>h
 weak:=fun h _=>h
def Jm8{τ:Type}(r:RT τ):RT (Kb τ) where
 size:=r.size+1
 agg:=true
 rep:=fun _ _ _ _=>False
 len:=fun h=>h.elim
 one:=fun h=>by cases h
 flat:=fun h=>h.elim
 evo:=fun h _=>h
 weak:=fun h _=>h
def Jm9{τ:Type}(r:RT τ)(k:RT (Kb τ)):RT (Kb τ) where
 size:=r.size+1
 agg:=true
 rep:=fun ok w x cs=>∃c1 c2,cs=c1++c2∧r.rep ok w x.x c1∧(rSl k).rep ok w x.ks c2
 len:=by rintro _ _ x cs ⟨c1,c2,rfl,h1,h2⟩; simp[r.len h1,(rSl k).len h2,rSl]
 one:=fun h=>by cases h
 flat:=by
  rintro _ _ x cs ⟨c1,c2,rfl,h1,h2⟩ c hc
  rcases QX.1 hc with hc | hc
  ·exact r.flat h1 c hc
  ·exact(rSl k).flat h2 c hc
 evo:=by rintro _ _ _ x cs ⟨c1,c2,rfl,h1,h2⟩ he; exact⟨c1,c2,rfl,r.evo h1 he,(rSl k).evo h2 he⟩
 weak:=by rintro _ _ _ x cs ⟨c1,c2,rfl,h1,h2⟩ he; exact⟨c1,c2,rfl,r.weak h1 he,(rSl k).weak h2 he⟩
def Dn{τ:Type}(r:RT τ):Nat→RT (Kb τ)
 | 0=>Jm8 r
 | n+1=>Jm9 r (Dn r n)
theorem Cm{τ:Type}(r:RT τ):∀n,(Dn r n).size=r.size+1
 | 0=>rfl
 | _+1=>rfl
theorem Qoo{τ:Type}{r s:RT τ}{ok:Ok}{w:World}(hs:r.size=s.size)(h:∀{x cs},r.rep ok w x cs→s.rep ok w x cs){xs:List τ}{cs:List Value}:(rSl r).rep ok w xs cs→(rSl s).rep ok w xs cs:=by
 rintro⟨v,rfl,A,n,c,rfl,hl,hc,hn⟩
 refine⟨_,rfl,A,n,c,rfl,hl,hc,fun h0=>?_⟩
 grind
theorem Qlc{τ:Type}(r:RT τ){ok:Ok}{w:World}:∀(n:Nat) {x:Kb τ} {cs:List Value},(Dn r n).rep ok w x cs→(Dn r (n+1)).rep ok w x cs
 | 0,_,_,h=>h.elim
 | n+1,x,cs,⟨c1,c2,e,h1,h2⟩=>⟨c1,c2,e,h1,Qoo (by rw[Cm,Cm]) (Qlc r n) h2⟩
theorem Q9j{τ:Type}(r:RT τ){ok:Ok}{w:World}{n m:Nat}(h:n≤m){x:Kb τ}{cs:List Value}(hx:(Dn r n).rep ok w x cs):(Dn r m).rep ok w x cs:=by
 induction h with
 | refl=>exact hx
 | step _ ih=>exact Qlc r _ ih
def Qld{τ:Type}(r:RT τ):RT (Kb τ) where
 size:=r.size+1
 agg:=true
 rep:=fun ok w x cs=>∃n,(Dn r n).rep ok w x cs
 len:=by rintro _ _ x cs ⟨n,h⟩; rw[(Dn r n).len h,Cm]
 one:=fun h=>by cases h
 flat:=by rintro _ _ x cs ⟨n,h⟩; exact(Dn r n).flat h
 evo:=by rintro _ _ _ x cs ⟨n,h⟩ he; exact⟨n,(Dn r n).evo h he⟩
 weak:=by rintro _ _ _ x cs ⟨n,h⟩ he; exact⟨n,(Dn r n).weak h he⟩
theorem Q9k{τ:Type}{r:RT τ}{ok:Ok}{w:World}{x:Kb τ}{cs:List Value}(h:(Qld r).rep ok w x cs):∃c1 c2,cs=c1++c2∧r.rep ok w x.x c1∧(rSl (Qld r)).rep ok w x.ks c2:=by
 obtain⟨n,h⟩:=h
 cases n with
 | zero=>exact h.elim
 | succ n =>
  obtain⟨c1,c2,e,h1,h2⟩:=h
  exact⟨c1,c2,e,h1,Qoo (s:=Qld r) (Cm r n) (fun h=>⟨n,h⟩) h2⟩
theorem Qyn{τ:Type}{r:RT τ}{ok:Ok}{w:World}{x:τ}{ks:List (Kb τ)}{c1 c2:List Value}(h1:r.rep ok w x c1)(h2:(rSl (Qld r)).rep ok w ks c2):(Qld r).rep ok w (.mk x ks) (c1++c2):=by
 obtain⟨v,rfl,A,n,c,rfl,hl,hc,hn⟩:=h2
 rcases Nat.eq_zero_or_pos n with h0 | h0
 ·subst h0
  refine⟨1,c1,_,rfl,h1,_,rfl,A,0,c,rfl,hl,hc,fun h=>absurd h (by omega)⟩
 ·obtain⟨b,o,hA,hx⟩:=hn h0
  have key2:∀(k:Nat),∃m,∀(i:Nat) (y:Kb τ),i<k→ks[i]?=some y→∃cs,(Dn r m).rep ok w y cs∧Cg ok w b (o+i*(Qld r).size) cs:=by
   intro k
   induction k with
   | zero=>simp_all
   | succ k ih =>
    obtain⟨m,hm⟩:=ih
    cases hk:ks[k]? with
    | none =>
     refine⟨m,fun i y hi hy=>?_⟩
     grind
    | some z =>
     obtain⟨cs,⟨m2,h3⟩,h4⟩:=hx k z hk
     refine⟨max m m2,fun i y hi hy=>?_⟩
     grind [Nat.lt_or_ge,Q9j,Nat.le_max_left,Nat.le_max_right]
  obtain⟨m,hm⟩:=key2 ks.length
  refine⟨m+1,c1,_,rfl,h1,_,rfl,A,n,c,rfl,hl,hc,fun _=>⟨b,o,hA,fun i y hy=>?_⟩⟩
  obtain⟨cs,h5,h6⟩:=hm i y (List.getElem?_eq_some_iff.1 hy).1 hy
  exact⟨cs,h5,by rw[Cm]; exact h6⟩
def rt:(t:Ty)→RT t.De
 | .int k=>Qa0 k
 | .bool=>Qx6
 | .str=>Joo
 | .sl e=>rSl (rt e)
 | .arr n e=>Jdb n (rt e)
 | .unit=>Jor
 | .pr f r=>Jkk (rt f) (rt r)
 | .st fs=>Jos (rt fs)
 | .ref=>Jot
 | .rose fs=>Qld (rt fs)
def Ty.size:Ty→Nat
 | .int _=>1 | .bool=>1 | .str=>1 | .sl _=>1
 | .arr n e=>n*e.size
 | .unit=>0 | .pr f r=>f.size+r.size | .st fs=>fs.size | .ref=>1 | .rose fs=>fs.size+1
def Ty.agg:Ty→Bool
 | .int _=>false | .bool=>false | .str=>false | .sl _=>false
 | .arr _ _=>true
 | .unit=>true | .pr _ _=>true | .st _=>true | .ref=>false | .rose _=>true
theorem Jp:∀t:Ty,(rt t).size=t.size
 | .int _=>rfl | .bool=>rfl | .str=>rfl | .sl _=>rfl
 | .arr n e=>by simp[rt,Jdb,Ty.size,Jp e]
 | .unit=>rfl
 | .pr f r=>by simp[rt,Jkk,Ty.size,Jp f,Jp r]
 | .st fs=>by simp[rt,Jos,Ty.size,Jp fs]
 | .ref=>rfl
 | .rose fs=>by simp[rt,Qld,Ty.size,Jp fs]
theorem La:∀t:Ty,(rt t).agg=t.agg
 | .int _=>rfl | .bool=>rfl | .str=>rfl | .sl _=>rfl | .arr _ _=>rfl | .unit=>rfl | .pr _ _=>rfl | .st _=>rfl | .ref=>rfl | .rose _=>rfl
inductive PS where
 | f (k off:Nat) | i (j:Int) (size:Nat)
def PS.off:PS→Nat
 | .f _ o=>o | .i j s=>j.toNat*s
def Yh:List PS→Nat
 | []=>0
 | p::l=>p.off+Yh l
inductive AV where
 | d (t:Ty) (x:t.De)
 | p (id:Nat) (path:List PS)
 | e (id:Nat) (path:List PS)
 | s (id:Nat)
 | m (id:Nat)
 | b (id:Nat)
 | w (id:Nat) (j n:Int)
 | a (t:Ty) (x:t.De)
 | z | ns | np | nm | nf
 | f (fn:FuncId) (caps:AV)
 | ag (l:AV)
 | tp (l:AV)
 | nil
 | cons (x r:AV)
def AV.isAgg:AV→Bool
 | .d t _=>t.agg
 | .ag _=>true
 | _=>false
def AV.val(x:AV)(cs:List Value):Value:=bif x.isAgg then .agg cs.toArray else cs.headD undef
def AV.size:AV→Nat
 | .d t _=>t.size
 | .ag l=>l.size
 | .nil=>0
 | .cons x r=>x.size+r.size
 | _=>1
def AV.inMem:AV→Bool
 | .tp _=>false
 | .f _ _=>true
 | .ag l=>l.inMem
 | .cons x r=>x.inMem&&r.inMem
 | _=>true
def zal(v u:Value):Prop:=v=u∨(u=.slice none 0 0∧∃A,v=.slice A 0 0)
theorem zal.form{v u:Value}(h:zal v u)(hu:∃A n c,u=.slice A n c):∃A n c,v=.slice A n c:=by
 rcases h with rfl | ⟨_,A,rfl⟩
 ·exact hu
 grind
section
variable (β:Nat→Nat) (ρ:Nat→Value) (ok:Ok) (w:World)
def cr:Bool→AV→List Value→Prop
 | _,.d t x,cs=>(rt t).rep ok w x cs
 | _,.p id path,cs=>cs=[.pointer (some ⟨β id,Yh path,none⟩)]
 | _,.e id path,cs=>∃g,(ρ id).ownBlock=some g∧cs=[.pointer (some ⟨g,Yh path,none⟩)]
 | _,.s id,cs=>(∃v,cs=[v]∧zal v (ρ id))∧∃A n c,ρ id=.slice A n c
 | _,.m id,cs=>cs=[.map (some (β id))]
 | _,.b id,cs=>cs=[.int .i64 (β id)]
 | _,.w id j n,cs=>∃A c,cs=[.slice (some A) n.toNat c]∧(0<n.toNat→A=⟨β id,j.toNat,none⟩)
 | _,.a t x,cs=>∃v,cs=[v]∧Qob (rt t) ok w x v
 | _,.z,cs=>∃A,cs=[.slice A 0 0]
 | _,.ns,cs=>cs=[.slice none 0 0]
 | _,.np,cs=>cs=[.pointer none]
 | _,.nm,cs=>cs=[.map none]
 | _,.nf,cs=>cs=[.nilFunc]
 | _,.f fn caps,cs=>∃vs,cs=[.func (.func fn) #[] vs.toArray]∧cr true caps vs
 | _,.ag l,cs=>cr false l cs
 | _,.tp l,cs=>∃vs,cs=[.tuple vs.toArray]∧cr true l vs
 | _,.nil,cs=>cs=[]
 | true,.cons x r,cs=>∃c1 vs,cs=x.val c1::vs∧cr false x c1∧cr true r vs
 | false,.cons x r,cs=>∃c1 c2,cs=c1++c2∧cr false x c1∧cr false r c2
end
section
variable {β:Nat→Nat} {ρ:Nat→Value} {ok ok':Ok} {w w':World}
theorem Lb:∀{m:Bool} {x:AV} {cs:List Value},cr β ρ ok w m x cs→Evo ok w w'→cr β ρ ok w' m x cs
 | m,.d t x,cs,h,he=>by cases m<;>exact(rt t).evo h he
 | m,.p ..,cs,h,he=>by cases m<;>exact h
 | m,.e ..,cs,h,he=>by cases m<;>exact h
 | m,.s _,cs,h,he=>by cases m<;>exact h
 | m,.m _,cs,h,he=>by cases m<;>exact h
 | m,.b _,cs,h,he=>by cases m<;>exact h
 | m,.w ..,cs,h,he=>by cases m<;>exact h
 | m,.a t x,cs,h,he=>by cases m<;>exact let⟨v,h1,h2⟩:=h; ⟨v,h1,h2.evo he⟩
 | m,.z,cs,h,he=>by cases m<;>exact h
 | m,.ns,cs,h,he=>by cases m<;>exact h
 | m,.np,cs,h,he=>by cases m<;>exact h
 | m,.nm,cs,h,he=>by cases m<;>exact h
 | m,.nf,cs,h,he=>by cases m<;>exact h
 | m,.f fn caps,cs,h,he=>by cases m<;>exact let⟨vs,h1,h2⟩:=h; ⟨vs,h1,Lb h2 he⟩
 | m,.ag l,cs,h,he=>by cases m<;>exact Lb (m:=false) (x:=l) h he
 | m,.tp l,cs,h,he=>by cases m<;>exact let⟨vs,h1,h2⟩:=h; ⟨vs,h1,Lb h2 he⟩
 | m,.nil,cs,h,he=>by cases m<;>exact h
 | true,.cons x r,cs,h,he=>let⟨c1,vs,h1,h2,h3⟩:=h; ⟨c1,vs,h1,Lb h2 he,Lb h3 he⟩
 | false,.cons x r,cs,h,he=>let⟨c1,vs,h1,h2,h3⟩:=h; ⟨c1,vs,h1,Lb h2 he,Lb h3 he⟩
theorem Xy:∀{m:Bool} {x:AV} {cs:List Value},cr β ρ ok w m x cs→(∀b o,ok b o→ok' b o)→cr β ρ ok' w m x cs
 | m,.d t x,cs,h,he=>by cases m<;>exact(rt t).weak h he
 | m,.p ..,cs,h,he=>by cases m<;>exact h
 | m,.e ..,cs,h,he=>by cases m<;>exact h
 | m,.s _,cs,h,he=>by cases m<;>exact h
 | m,.m _,cs,h,he=>by cases m<;>exact h
 | m,.b _,cs,h,he=>by cases m<;>exact h
 | m,.w ..,cs,h,he=>by cases m<;>exact h
 | m,.a t x,cs,h,he=>by cases m<;>exact let⟨v,h1,h2⟩:=h; ⟨v,h1,h2.weak he⟩
 | m,.z,cs,h,he=>by cases m<;>exact h
 | m,.ns,cs,h,he=>by cases m<;>exact h
 | m,.np,cs,h,he=>by cases m<;>exact h
 | m,.nm,cs,h,he=>by cases m<;>exact h
 | m,.nf,cs,h,he=>by cases m<;>exact h
 | m,.f fn caps,cs,h,he=>by cases m<;>exact let⟨vs,h1,h2⟩:=h; ⟨vs,h1,Xy h2 he⟩
 | m,.ag l,cs,h,he=>by cases m<;>exact Xy (m:=false) (x:=l) h he
 | m,.tp l,cs,h,he=>by cases m<;>exact let⟨vs,h1,h2⟩:=h; ⟨vs,h1,Xy h2 he⟩
 | m,.nil,cs,h,he=>by cases m<;>exact h
 | true,.cons x r,cs,h,he=>let⟨c1,vs,h1,h2,h3⟩:=h; ⟨c1,vs,h1,Xy h2 he,Xy h3 he⟩
 | false,.cons x r,cs,h,he=>let⟨c1,vs,h1,h2,h3⟩:=h; ⟨c1,vs,h1,Xy h2 he,Xy h3 he⟩
theorem Ux:∀{x:AV} {cs:List Value},cr β ρ ok w false x cs→cs.length=x.size
 | .d t x,cs,h=>by rw[AV.size,←Jp]; exact(rt t).len h
 | .p ..,cs,h=>by subst h; rfl
 | .e ..,cs,⟨_,_,h⟩=>by subst h; rfl
 | .s _,cs,⟨⟨_,h,_⟩,_⟩=>by subst h; rfl
 | .m _,cs,h=>by subst h; rfl
 | .b _,cs,h=>by subst h; rfl
 | .w ..,cs,⟨_,_,h,_⟩=>by subst h; rfl
 | .a t x,cs,⟨_,h,_⟩=>by subst h; rfl
 | .z,cs,⟨_,h⟩=>by subst h; rfl
 | .ns,cs,h=>by subst h; rfl
 | .np,cs,h=>by subst h; rfl
 | .nm,cs,h=>by subst h; rfl
 | .nf,cs,h=>by subst h; rfl
 | .f ..,cs,⟨_,h,_⟩=>by subst h; rfl
 | .ag l,cs,h=>by rw[AV.size]; exact Ux (x:=l) h
 | .tp l,cs,⟨_,h,_⟩=>by subst h; rfl
 | .nil,cs,h=>by subst h; rfl
 | .cons x r,cs,⟨c1,c2,h,h1,h2⟩=>by subst h; rw[List.length_append,Ux h1,Ux h2]; rfl
theorem Sg:∀{x:AV} {cs:List Value},cr β ρ ok w false x cs→x.inMem=true→∀c∈cs,c.oneCell'=true
 | .d t x,cs,h,_=>(rt t).flat h
 | .p ..,cs,h,_=>by subst h; simp; rfl
 | .e ..,cs,⟨_,_,h⟩,_=>by subst h; simp; rfl
 | .s id,cs,⟨⟨v,h,hz⟩,hs⟩,_=>by
  subst h; obtain⟨A,n,c,rfl⟩:=hz.form hs
  intro c hc; simp at hc; subst hc; rfl
 | .m _,cs,h,_=>by subst h; simp; rfl
 | .b _,cs,h,_=>by subst h; simp; rfl
 | .w ..,cs,⟨_,_,h,_⟩,_=>by subst h; simp; rfl
 | .a t x,cs,⟨v,h,hv⟩,_=>by obtain⟨b,o,c,rfl,_⟩:=hv; subst h; simp; rfl
 | .z,cs,⟨_,h⟩,_=>by subst h; simp; rfl
 | .ns,cs,h,_=>by subst h; simp; rfl
 | .np,cs,h,_=>by subst h; simp; rfl
 | .nm,cs,h,_=>by subst h; simp; rfl
 | .nf,cs,h,_=>by subst h; simp; rfl
 | .f ..,cs,⟨_,h,_⟩,_=>by subst h; simp; rfl
 | .ag l,cs,h,hm=>Sg (x:=l) h hm
 | .tp l,cs,_,hm=>by cases hm
 | .nil,cs,h,_=>by subst h; simp
 | .cons x r,cs,⟨c1,c2,h,h1,h2⟩,hm=>by
  simp only[AV.inMem,QQ]at hm
  subst h
  intro c hc
  rcases QX.1 hc with hc | hc
  ·exact Sg h1 hm.1 c hc
  ·exact Sg h2 hm.2 c hc
theorem Jna{x:AV}{cs:List Value}(h:cr β ρ ok w false x cs)(ha:x.isAgg=false)(hn:x.size=1):∃c,cs=[c]:=by
 have:=Ux h
 rw[hn]at this
 match cs,this with
 | [c],_=>exact⟨c,rfl⟩
theorem Jdj:∀{t:Ty},t.agg=false→t.size=1
 | .int _,_=>rfl | .bool,_=>rfl | .str,_=>rfl | .sl _,_=>rfl | .ref,_=>rfl
def AV.isVal:AV→Bool
 | .nil=>false
 | .cons _ _=>false
 | .d t _=>true
 | _=>true
theorem Ni{x:AV}{cs:List Value}(h:cr β ρ ok w false x cs)(hv:x.isVal=true)(hm:x.inMem=true):Qu (x.val cs)=cs:=by
 unfold AV.val
 cases ha:x.isAgg with
 | true=>simp[Qu]
 | false =>
  have kj:x.size=1:=by
   cases x<;>first | rfl | (simp[AV.isAgg]at ha; done) | (simp[AV.isVal]at hv; done) | skip
   ·exact Jdj ha
  obtain⟨c,rfl⟩:=Jna h ha kj
  have:=Sg h hm c (.head _)
  simp only[cond_false,List.headD_cons]
  cases c<;>first | rfl | grind [Value.oneCell']
theorem Qyo{t:Ty}{x:t.De}{cs:List Value}:(AV.d t x).val cs=(rt t).val cs:=by
 grind [AV.val,AV.isAgg,RT.val,La]
theorem Q9l{t:Ty}{x:t.De}{cs:List Value}(h:cr β ρ ok w false (.d t x) cs):isV (rt t) ok w x ((AV.d t x).val cs):=⟨cs,h,Qyo⟩
theorem Qsv{t:Ty}{x:t.De}{v:Value}(h:isV (rt t) ok w x v):∃cs,cr β ρ ok w false (.d t x) cs∧v=(AV.d t x).val cs:=by
 obtain⟨cs,hr,rfl⟩:=h
 exact⟨cs,hr,Qyo.symm⟩
end
end Gx

/- Abstract states. -/
namespace Gx
open Go Go.RowKit Gd
set_option linter.unusedVariables false
set_option linter.unusedSimpArgs false
inductive CK where
 | sl (e:TypeId) (u:Ty)
 | mp (k v:Ty)
@[reducible] def CK.ty:CK→Ty
 | .sl _ u=>.sl u
 | .mp k v=>.sl (.pr k v)
inductive Ob where
 | var (tid:TypeId) (c:AV)
 | row (e:TypeId) (t:Ty) (xs:List t.De)
 | tail (e:TypeId) (t:Ty) (xs:List t.De)
 | map (k v:Ty) (xs:List (k.De×v.De))
 | mapC (k:Ty) (c:CK) (xs:List (k.De×c.ty.De)) (hole:Option (k.De×Nat))
def Qop(β:Nat→Nat)(ρ:Nat→Value)(g:Nat)(tid:TypeId)(c:AV):TL where
 blks:=fun b=>b=g
 cov:=fun b _=>b=g
 cb:=fun h=>h
 p:=fun ok w=>∃cs,w.heap[g]?=some (.cells cs.toArray tid (0,0))∧cr β ρ ok w false c cs
 keep:=fun⟨cs,h1,h2⟩ hb he=>⟨cs,by rw[hb _ rfl]; exact h1,Lb h2 he⟩
 weak:=fun⟨cs,h1,h2⟩ hk=>⟨cs,h1,Xy h2 hk⟩
 lt:=fun⟨_,h,_⟩ b hb=>by grind
def Qbi{τ:Type}(v:Value)(e:Nat)(r:RT τ)(xs:List τ):TL where
 blks:=fun g=>v.ownBlock=some g
 cov:=fun b o=>v.ownBlock=some b∧K0 v*r.size≤o
 cb:=fun h=>h.1
 p:=fun ok w=>isV (rSl r) ok w xs v∧∃ys,w.ownsRowS 0 e r.size v (K0 v) ys
 keep:=fun⟨h1,ys,h⟩ hb he=>⟨h1.evo he,ys,Sf h hb⟩
 weak:=fun⟨h1,h⟩ hk=>⟨h1.weak hk,h⟩
 lt:=fun⟨_,_,h⟩ g hg=>(h.lt g hg).2
def Do{κ ν:Type}(r:RT κ)(s:RT ν)(ok:Ok)(w:World):List (κ×ν)→List MapEntry→Prop
 | [],es=>es=[]
 | x::xs,es=>∃e es',es=e::es'∧isV r ok w x.1 e.key∧isV s ok w x.2 e.val∧Do r s ok w xs es'
theorem Pw{κ ν:Type}{r:RT κ}{s:RT ν}{ok:Ok}{w w':World}:∀{xs:List (κ×ν)} {es:List MapEntry},Do r s ok w xs es→Evo ok w w'→Do r s ok w' xs es
 | [],_,h,_=>h
 | x::xs,es,⟨e,es',h,h1,h2,h3⟩,he=>⟨e,es',h,h1.evo he,h2.evo he,Pw h3 he⟩
theorem Gg{κ ν:Type}{r:RT κ}{s:RT ν}{ok ok':Ok}{w:World}:∀{xs:List (κ×ν)} {es:List MapEntry},Do r s ok w xs es→(∀b o,ok b o→ok' b o)→Do r s ok' w xs es
 | [],_,h,_=>h
 | x::xs,es,⟨e,es',h,h1,h2,h3⟩,he=>⟨e,es',h,h1.weak he,h2.weak he,Gg h3 he⟩
def Qg8{κ ν:Type}(g:Nat)(r:RT κ)(s:RT ν)(xs:List (κ×ν)):TL where
 blks:=fun b=>b=g
 cov:=fun b _=>b=g
 cb:=fun h=>h
 p:=fun ok w=>∃es clock,w.heap[g]?=some (.map es clock)∧Do r s ok w xs es.toList∧(xs.map Prod.fst).Nodup∧(es.toList.map MapEntry.born).Nodup∧∀e∈es.toList,e.born<clock
 keep:=fun⟨es,c,h1,h2,h3⟩ hb he=>⟨es,c,by rw[hb _ rfl]; exact h1,Pw h2 he,h3⟩
 weak:=fun⟨es,c,h1,h2,h3⟩ hk=>⟨es,c,h1,Gg h2 hk,h3⟩
 lt:=fun⟨_,_,h,_⟩ b hb=>by grind
def Z3:Value→Option Nat
 | .map o=>o
 | v=>v.ownBlock
theorem Qbj{w:World}{base:Nat}{e:TypeId}{size n:Nat}{v:Value}{xs:List Value}(h:w.ownsRowS base e size v n xs){b:Nat}:v.ownBlock=some b↔Z3 v=some b:=by
 rcases h.2 with⟨rfl,_⟩ | ⟨g,cap,cur,fz,rfl,_⟩<;>exact Iff.rfl
def Qa1:(c:CK)→Value→c.ty.De→TL
  | .sl e u,v,x=>ml v e (rt u) x
  | .mp k v0,v,x=>{ Qg8 ((Z3 v).getD 0) (rt k) (rt v0) x with
      blks:=fun b=>Z3 v=some b
      cov:=fun b _=>Z3 v=some b
      cb:=fun h=>h
      p:=fun ok w=>∃g,v=.map (some g)∧(Qg8 g (rt k) (rt v0) x).p ok w
      keep:=fun⟨g,h1,h2⟩ hb he=>⟨g,h1,(Qg8 g (rt k) (rt v0) x).keep h2 (fun b hg=>hb b (by subst hg; rw[h1]; rfl)) he⟩
      weak:=fun⟨g,h1,h2⟩ hk=>⟨g,h1,(Qg8 g (rt k) (rt v0) x).weak h2 hk⟩
      lt:=fun⟨g,h1,h2⟩ b hb=>(Qg8 g (rt k) (rt v0) x).lt h2 b (by rw[h1]at hb; injection hb with hb; exact hb.symm) }
theorem Qyp{c:CK}{v:Value}{x:c.ty.De}{ok:Ok}{w:World}(h:(Qa1 c v x).p ok w){b:Nat}:(Qa1 c v x).blks b↔Z3 v=some b:=by
 cases c with
 | sl e u =>
  obtain⟨_,cs,h2,_⟩:=h
  exact Qbj h2
 | mp k v0=>exact Iff.rfl
def Jii:RT Value where
 size:=1
 agg:=false
 rep:=fun _ _ x cs=>cs=[x]∧x.oneCell'=true
 len:=fun h=>by rw[h.1]; rfl
 one:=fun _=>rfl
 flat:=fun h c hc=>by rw[h.1]at hc; grind
 evo:=fun h _=>h
 weak:=fun h _=>h
def Bn{κ:Type}(c:CK)(hole:Option κ)(hv:Value)(ok:Ok)(w:World):List (κ×c.ty.De)→List (κ×Value)→List Value→Prop
 | [],[],[]=>True
 | x::xs,y::ys,v::vs=>x.1=y.1∧((hole=some x.1∧v=undef∧zal y.2 hv)∨(hole≠some x.1∧zal y.2 v∧(Qa1 c v x.2).p ok w))∧Bn c hole hv ok w xs ys vs
 | _,_,_=>False
section
variable {κ:Type} {c:CK} {hole:Option κ} {hv:Value} {ok ok':Ok} {w w':World}
theorem Qoq:∀{xs:List (κ×c.ty.De)} {ys:List (κ×Value)} {vs:List Value},Bn c hole hv ok w xs ys vs→(∀v∈vs,∀b,Z3 v=some b→w'.heap[b]?=w.heap[b]?)→Evo ok w w'→Bn c hole hv ok w' xs ys vs
 | [],[],[],h,_,_=>h
 | x::xs,y::ys,v::vs,⟨h1,h2,h3⟩,hb,he=>⟨h1,h2.imp id fun⟨q1,q2,q3⟩=>⟨q1,q2,(Qa1 c v x.2).keep q3 (fun b hg=>hb v (.head _) b ((Qyp q3).1 hg)) he⟩,Qoq h3 (fun v hv=>hb v (.tail _ hv)) he⟩
 | [],[],_::_,h,_,_=>h.elim
 | [],_::_,_,h,_,_=>h.elim
 | _::_,[],_,h,_,_=>h.elim
 | _::_,_::_,[],h,_,_=>h.elim
theorem Px:∀{xs:List (κ×c.ty.De)} {ys:List (κ×Value)} {vs:List Value},Bn c hole hv ok w xs ys vs→(∀b o,ok b o→ok' b o)→Bn c hole hv ok' w xs ys vs
 | [],[],[],h,_=>h
 | x::xs,y::ys,v::vs,⟨h1,h2,h3⟩,hk=>⟨h1,h2.imp id fun⟨q1,q2,q3⟩=>⟨q1,q2,(Qa1 c v x.2).weak q3 hk⟩,Px h3 hk⟩
 | [],[],_::_,h,_=>h.elim
 | [],_::_,_,h,_=>h.elim
 | _::_,[],_,h,_=>h.elim
 | _::_,_::_,[],h,_=>h.elim
theorem Q6g:∀{xs:List (κ×c.ty.De)} {ys:List (κ×Value)} {vs:List Value},Bn c hole hv ok w xs ys vs→∀v∈vs,∀b,Z3 v=some b→b<w.heap.size
 | [],[],[],h=>by simp
 | x::xs,y::ys,v::vs,⟨h1,h2,h3⟩=>by
  intro y hy b hb
  rcases QJ.1 hy with rfl | hy
  ·rcases h2 with⟨_,rfl,_⟩ | ⟨_,_,q3⟩
   ·cases hb
   ·exact(Qa1 c y x.2).lt q3 b ((Qyp q3).2 hb)
  ·exact Q6g h3 y hy b hb
 | [],[],_::_,h=>h.elim
 | [],_::_,_,h=>h.elim
 | _::_,[],_,h=>h.elim
 | _::_,_::_,[],h=>h.elim
end
def Si:Value→List Value
 | .tuple vs=>vs.toList
 | _=>[]
abbrev Qg9(vs:List Value):Prop:=vs.Pairwise fun a b=>∀g,Z3 a=some g→Z3 b≠some g
def Jdk{κ:Type}(g:Nat)(r:RT κ)(c:CK)(vs:List Value)(xs:List (κ×c.ty.De))(hole:Option κ)(hv:Value)(ok:Ok)(w:World):Prop :=
 ∃ys,(∃es clock,w.heap[g]?=some (.map es clock)∧Do r Jii ok w ys es.toList∧(es.toList.map MapEntry.born).Nodup∧∀e∈es.toList,e.born<clock)∧Bn c hole hv ok w xs ys vs∧(xs.map Prod.fst).Nodup∧Qg9 vs∧(∀v∈vs,Z3 v≠some g)∧∀k,hole=some k→k∉xs.map Prod.fst→hv=.slice none 0 0
def Jdl(g:Nat)(vs:List Value){κ:Type}(r:RT κ)(c:CK)(xs:List (κ×c.ty.De))(hole:Option κ)(hv:Value):TL where
 blks:=fun b=>b=g∨∃v∈vs,Z3 v=some b
 cov:=fun b _=>b=g∨∃v∈vs,Z3 v=some b
 cb:=fun h=>h
 p:=fun ok w=>Jdk g r c vs xs hole hv ok w
 keep:=fun⟨ys,⟨es,cl,h1,h2,h3⟩,h4,h5⟩ hb he=>⟨ys,⟨es,cl,by rw[hb _ (.inl rfl)]; exact h1,Pw h2 he,h3⟩,Qoq h4 (fun v hv b hvb=>hb b (.inr ⟨v,hv,hvb⟩)) he,h5⟩
 weak:=fun⟨ys,⟨es,cl,h1,h2,h3⟩,h4,h5⟩ hk=>⟨ys,⟨es,cl,h1,Gg h2 hk,h3⟩,Px h4 hk,h5⟩
 lt:=fun⟨_,⟨_,_,h,_⟩,h2,_⟩ b hb=>by
  rcases hb with rfl | ⟨v,hv,hb⟩
  ·exact Y9 h
  ·exact Q6g h2 v hv b hb
def Lc{k:Ty}(β:Nat→Nat)(ρ:Nat→Value)(c:CK)(hole:Option (k.De×Nat)):Value:=match hole with
 | some q=>(match c with
  | .sl _ _=>ρ q.2
  | .mp _ _=>.map (some (β q.2)))
 | none=>undef
def Qyq{k:Ty}(hole:Option (k.De×Nat)):Option k.De:=match hole with
 | some q=>some q.1
 | none=>none
def Q0(β:Nat→Nat)(ρ:Nat→Value)(id:Nat):Ob→TL
 | .var tid c=>Qop β ρ (β id) tid c
 | .row e t xs=>ml (ρ id) e (rt t) xs
 | .tail e t xs=>Qbi (ρ id) e (rt t) xs
 | .map k v xs=>Qg8 (β id) (rt k) (rt v) xs
 | .mapC k c xs hole=>Jdl (β id) (Si (ρ id)) (rt k) c xs (Qyq hole) (Lc β ρ c hole)
abbrev Y4:=List (Nat×Bool)
structure En where
 t:Nat
 cs:Y4
 av:AV
structure St where
 env:List En
 mem:List (Nat×Ob)
def Js(a:Act)(cs:Y4):Prop:=∀c∈cs,a.tmps[c.1]?=some (.bool c.2)
def rd(a:Act)(t:Nat):Option Value:=bif Nat.blt t 100000 then a.tmps[t]? else some (.pointer (some ⟨t - 100000,0,none⟩))
theorem Nj{a:Act}{t:Nat}(h:Nat.blt t 100000=true):rd a t=a.tmps[t]?:=by grind [rd]
def enD(β:Nat→Nat)(ρ:Nat→Value)(a:Act)(e:En):DF where
 p:=fun ok w=>(Js a e.cs→∃cs,rd a e.t=some (e.av.val cs)∧cr β ρ ok w false e.av cs)∧(Js a e.cs∨rd a e.t=some undef)
 evo:=fun h he=>⟨fun hc=>let⟨cs,h1,h2⟩:=h.1 hc; ⟨cs,h1,Lb h2 he⟩,h.2⟩
 weak:=fun h hk=>⟨fun hc=>let⟨cs,h1,h2⟩:=h.1 hc; ⟨cs,h1,Xy h2 hk⟩,h.2⟩
abbrev Qi(β:Nat→Nat)(ρ:Nat→Value)(mem:List (Nat×Ob)):List TL:=mem.map fun q=>Q0 β ρ q.1 q.2
abbrev okR(X:Cx)(β:Nat→Nat)(ρ:Nat→Value)(mem:List (Nat×Ob))(w:World):Ok:=Jg X.ok X.w.heap.size (fun _=>0) [] (Qi β ρ mem) w
def Rel(X:Cx)(β:Nat→Nat)(ρ:Nat→Value)(S:St)(a:Act)(w:World):Prop :=
 Sb (fun _=>0) X [] (S.env.map (enD β ρ a)) [] (Qi β ρ S.mem) a w
def Qja:List En→Nat→Option En
 | [],_=>none
 | e::l,t=>bif Nat.beq e.t t then some e else Qja l t
theorem Qjb{l:List En}{t:Nat}{e:En}(h:Qja l t=some e):e∈l∧e.t=t:=by
 induction l with
 | nil=>simp[Qja]at h
 | cons x l ih =>
  simp only[Qja]at h
  cases hb:Nat.beq x.t t with
  | true=>rw[hb]at h; simp_all
  | false=>rw[hb]at h; grind
def Kc(l:List En)(t:Nat):Option En:=bif Nat.blt t 100000 then Qja l t else none
theorem Qbk{l:List En}{t:Nat}{e:En}(h:Kc l t=some e):Nat.blt t 100000=true:=by
 grind [Kc,Nat.blt]
theorem Uy{l:List En}{t:Nat}{e:En}(h:Kc l t=some e):e∈l∧e.t=t:=by
 have hb:=Qbk h
 grind [Kc,Qjb]
theorem Qyr{l:List En}{t:Nat}{e:En}(h:Kc l t=some e)(a:Act):rd a e.t=a.tmps[e.t]?:=Nj (by rw[(Uy h).2]; exact Qbk h)
def Jou(l:List En)(g:Nat):Option En:=Qja l (100000+g)
theorem Q3x(a:Act)(g:Nat):rd a (100000+g)=some (.pointer (some ⟨g,0,none⟩)):=by
 unfold rd
 have:Nat.blt (100000+g) 100000=false:=by
  cases hb:Nat.blt (100000+g) 100000 with
  | false=>rfl
  | true=>exact absurd (QV hb) (by omega)
 rw[this]
 simp
def Jij:Y4→Nat×Bool→Bool
 | [],_=>false
 | (t,b)::l,c=>(Nat.beq t c.1&&(b==c.2))||Jij l c
theorem Q6h:∀{l:Y4} {c:Nat×Bool},Jij l c=true→c∈l
 | (t,b)::l,(u,v),h=>by
  simp only[Jij,JZ,QQ]at h
  rcases h with⟨h1,h2⟩ | h
  ·have:=Nat.eq_of_beq_eq_true h1
   grind
  ·exact .tail _ (Q6h h)
def Qvo:Y4→Y4→Bool
 | [],_=>true
 | c::l,cur=>Jij cur c&&Qvo l cur
theorem Qdq:∀{l cur:Y4} {a:Act},Qvo l cur=true→Js a cur→Js a l
 | [],cur,a,_,_=>by intro c hc; cases hc
 | c::l,cur,a,h,hc=>by
  simp only[Qvo,QQ]at h
  intro x hx
  rcases QJ.1 hx with rfl | hx
  ·exact hc _ (Q6h h.1)
  ·exact Qdq h.2 hc x hx
def Qjc:Value→Option AV
 | .int k n=>some (.d (.int k) n)
 | .bool b=>some (.d .bool b)
 | .string ⟨⟨l⟩⟩=>some (.d .str l)
 | .slice none 0 0=>some .ns
 | .pointer none=>some .np
 | .map none=>some .nm
 | .nilFunc=>some .nf
 | _=>none
def Qor:List Value→Option AV
 | []=>some .nil
 | v::l=>match Qjc v,Qor l with
  | some x,some r=>some (.cons x r)
  | _,_=>none
def Qvp:Value→Option AV
 | .agg ⟨l⟩=>match Qor l with
  | some r=>some (.ag r)
  | none=>none
 | v=>Qjc v
section
variable {β:Nat→Nat} {ρ:Nat→Value} {ok:Ok} {w:World}
theorem Qjd{v:Value}{x:AV}(h:Qjc v=some x):cr β ρ ok w false x [v]∧x.val [v]=v:=by
 unfold Qjc at h
 split at h<;>first | (simp at h; done) | skip
 all_goals
  simp only[Option.some.injEq]at h
  subst h
  exact⟨rfl,rfl⟩
theorem Qsw:∀{l:List Value} {x:AV},Qor l=some x→cr β ρ ok w false x l
 | [],x,h=>by simp[Qor]at h; subst h; rfl
 | v::l,x,h=>by
  simp only[Qor]at h
  split at h
  ·rename_i y r h1 h2
   simp at h; subst h
   exact⟨[v],l,rfl,(Qjd h1).1,Qsw h2⟩
  ·cases h
theorem Qos{v:Value}{x:AV}(h:Qvp v=some x):∃cs,v=x.val cs∧cr β ρ ok w false x cs:=by
 unfold Qvp at h
 split at h
 ·rename_i l
  split at h
  ·rename_i r hr
   simp at h; subst h
   exact⟨l,rfl,Qsw (x:=r) hr⟩
  ·cases h
 ·obtain⟨h1,h2⟩:=Qjd (β:=β) (ρ:=ρ) (ok:=ok) (w:=w) h
  grind
end
def ev(S:St)(cur:Y4):Operand→Option AV
 | .tmp t=>match Kc S.env t with
  | some e=>bif Qvo e.cs cur then some e.av else none
  | none=>none
 | .const v=>Qvp v
 | .func f=>some (.f f .nil)
 | .global g=>match Jou S.env g with
  | some e=>bif Qvo e.cs cur then some e.av else none
  | none=>none
def Qbl(t:Nat):Y4→Bool
 | []=>false
 | c::l=>Nat.beq c.1 t||Qbl t l
theorem Qbm{t:Nat}:∀{l:Y4},Qbl t l=false→∀c∈l,c.1≠t
 | [],_,c,hc=>by cases hc
 | d::l,h,c,hc=>by
  simp only[Qbl,JT]at h
  rcases QJ.1 hc with rfl | hc
  ·grind [Nat.beq_refl]
  ·exact Qbm h.2 c hc
def Yy:List En→Nat→List En
 | [],_=>[]
 | e::l,t=>bif Nat.beq e.t t||Qbl t e.cs then Yy l t else e::Yy l t
theorem Ld{l:List En}{t:Nat}{e:En}(h:e∈Yy l t):e∈l∧e.t≠t∧∀c∈e.cs,c.1≠t:=by
 induction l with
 | nil=>simp[Yy]at h
 | cons x l ih =>
  simp only[Yy]at h
  cases hb:(Nat.beq x.t t||Qbl t x.cs)with
  | true=>rw[hb]at h; grind
  | false =>
   rw[hb]at h
   simp only[cond_false,QJ]at h
   rcases h with rfl | h
   ·simp only[JT]at hb
    exact⟨.head _,fun e=>by rw[e]at hb; simp_all,Qbm hb.2⟩
   grind
def St.put(S:St)(d:Nat)(cs:Y4)(x:AV):St:=⟨⟨d,cs,x⟩::Yy S.env d,S.mem⟩
def St.del(S:St)(d:Nat):St:=⟨Yy S.env d,S.mem⟩
section
variable {X:Cx} {β:Nat→Nat} {ρ:Nat→Value} {S:St} {a a':Act} {w w':World}
theorem Yc{ok:Ok}{w:World}:∀{D:List DF},Qgz ok w D↔∀d∈D,d.p ok w
 | []=>by simp[Qgz]
 | d::D=>by simp[Qgz,Yc (D:=D)]
theorem Rel.en(h:Rel X β ρ S a w){e:En}(he:e∈S.env):(enD β ρ a e).p (okR X β ρ S.mem w) w:=Yc.1 h.dat _ (QZ.2 ⟨e,he,rfl⟩)
theorem Rel.get(h:Rel X β ρ S a w){t:Nat}{e:En}(he:Kc S.env t=some e)(hc:Js a e.cs) :
  ∃cs,a.tmps[t]?=some (e.av.val cs)∧cr β ρ (okR X β ρ S.mem w) w false e.av cs:=by
 have hr:=Qyr he a
 obtain⟨hm,rfl⟩:=Uy he
 rw[←hr]
 exact(h.en hm).1 hc
theorem Rel.ev(h:Rel X β ρ S a w){cur:Y4}(hc:Js a cur){x:Operand}{v:AV}(hx:ev S cur x=some v) :
  ∃cs,a.eval x=v.val cs∧cr β ρ (okR X β ρ S.mem w) w false v cs:=by
 cases x with
 | tmp t =>
  simp only[Gx.ev]at hx
  split at hx
  ·rename_i e he
   cases hb:Qvo e.cs cur with
   | false=>rw[hb]at hx; cases hx
   | true =>
    rw[hb]at hx
    simp at hx; subst hx
    obtain⟨cs,h1,h2⟩:=h.get he (Qdq hb hc)
    exact⟨cs,by simp[Act.eval,h1],h2⟩
  ·cases hx
 | const v =>
  obtain⟨cs,h1,h2⟩:=Qos (β:=β) (ρ:=ρ) (ok:=okR X β ρ S.mem w) (w:=w) hx
  exact⟨cs,h1,h2⟩
 | func f =>
  simp[Gx.ev]at hx; subst hx
  exact⟨[.func (.func f) #[] #[]],rfl,[],rfl,rfl⟩
 | global g =>
  simp only[Gx.ev]at hx
  split at hx
  ·rename_i e he
   cases hb:Qvo e.cs cur with
   | false=>rw[hb]at hx; cases hx
   | true =>
    rw[hb]at hx
    simp at hx; subst hx
    obtain⟨hm,ht⟩:=Qjb he
    obtain⟨cs,h1,h2⟩:=(h.en hm).1 (Qdq hb hc)
    rw[ht,Q3x]at h1
    exact⟨cs,Option.some.inj h1,h2⟩
  ·cases hx
theorem Rel.act(h:Rel X β ρ S a w){env':List En}(hs:a'.tmps.size=a.tmps.size)(hd:a'.defers=a.defers)(hr:∀t∈X.res,a'.tmps[t]?=a.tmps[t]?)
  (he:∀e∈env',(enD β ρ a' e).p (okR X β ρ S.mem w) w):Rel X β ρ ⟨env',S.mem⟩ a' w :=
 {sz:=hs.trans h.sz,df:=hd.trans h.df,fr:=fun t ht=>(hr t ht).trans (h.fr t ht),pn:=h.pn,tm:=by simp,bel:=h.bel,
  dat:=Yc.2 fun d hd=>by grind,
  obj:=h.obj,own:=h.own,dHH:=h.dHH,dHO:=h.dHO,dOO:=h.dOO }
theorem Yz{d t:Nat}(zk:t≠d)(v:Value):(a.put (some d) v).tmps[t]?=a.tmps[t]?:=by
 have:d≠t:=fun e=>zk e.symm
 grind [Act.put]
theorem Qha{d t:Nat}(zk:t≠d)(v:Value):rd (a.put (some d) v) t=rd a t:=by
 grind [rd,Yz]
theorem en_put(h:Rel X β ρ S a w){d:Nat}(v:Value){e:En}(he:e∈Yy S.env d):(enD β ρ (a.put (some d) v) e).p (okR X β ρ S.mem w) w:=by
 obtain⟨h1,h2,h3⟩:=Ld he
 have yb:Js (a.put (some d) v) e.cs↔Js a e.cs:=⟨fun hc c hm=>by rw[←Yz (h3 c hm) v]; exact hc c hm,fun hc c hm=>by rw[Yz (h3 c hm) v]; exact hc c hm⟩
 refine⟨fun hc=>?_,?_⟩
 ·obtain⟨cs,h4,h5⟩:=(h.en h1).1 (yb.1 hc)
  grind [Qha]
 ·rw[yb,Qha h2]; exact(h.en h1).2
theorem Rel.put(h:Rel X β ρ S a w){d:Nat}(hd:okD X d=true){cs:Y4}{x:AV}{v:Value}
  (hx:Js (a.put (some d) v) cs→∃c,v=x.val c∧cr β ρ (okR X β ρ S.mem w) w false x c) (hu:Js (a.put (some d) v) cs∨v=undef):Rel X β ρ (S.put d cs x) (a.put (some d) v) w:=by
 refine h.act (by simp[Act.put]) rfl (fun k hk=>Yz (fun(e:k=d)=>Qvg hd (e▸hk)) v) fun e he=>?_
 rcases QJ.1 he with rfl | he
 ·refine⟨fun hc=>?_,hu.imp id fun e=>by rw[Nj (Qdp hd)]; simp[Act.put,h.sz,Qod hd,e]⟩
  obtain⟨c,h1,h2⟩:=hx hc
  exact⟨c,by rw[Nj (Qdp hd)]; simp[Act.put,h.sz,Qod hd,h1],h2⟩
 ·exact en_put h v he
theorem Rel.del(h:Rel X β ρ S a w){d:Nat}(hd:okD X d=true)(v:Value):Rel X β ρ (S.del d) (a.put (some d) v) w :=
 h.act (by simp[Act.put]) rfl (fun k hk=>Yz (fun(e:k=d)=>Qvg hd (e▸hk)) v) fun e he=>en_put h v he
theorem Rel.less(h:Rel X β ρ S a w){env':List En}(he:∀e∈env',e∈S.env):Rel X β ρ ⟨env',S.mem⟩ a w :=
 h.act rfl rfl (fun _ _=>rfl) fun e hm=>h.en (he e hm)
theorem Qd(a:Act):Js a []:=fun _ h=>by cases h
theorem Rel.put0(h:Rel X β ρ S a w){d:Nat}(hd:okD X d=true){x:AV}{c:List Value}(hx:cr β ρ (okR X β ρ S.mem w) w false x c):Rel X β ρ (S.put d [] x) (a.put (some d) (x.val c)) w :=
 h.put hd (fun _=>⟨c,rfl,hx⟩) (.inl (Qd _))
def Qe:List (Nat×Ob)→Nat→Option Ob
 | [],_=>none
 | q::l,t=>bif Nat.beq q.1 t then some q.2 else Qe l t
def Qhb:List (Nat×Ob)→Nat→Ob→List (Nat×Ob)
 | [],_,_=>[]
 | q::l,t,o=>bif Nat.beq q.1 t then(t,o)::l else q::Qhb l t o
def Jx:List (Nat×Ob)→Nat→List (Nat×Ob)
 | [],_=>[]
 | q::l,t=>bif Nat.beq q.1 t then l else q::Jx l t
theorem Jv:∀{l:List (Nat×Ob)} {t:Nat} {o:Ob},Qe l t=some o→∃l1 l2,l=l1++(t,o)::l2∧(∀o',Qhb l t o'=l1++(t,o')::l2)∧Jx l t=l1++l2
 | q::l,t,o,h=>by
  simp only[Qe]at h
  cases hb:Nat.beq q.1 t with
  | true =>
   rw[hb]at h
   simp at h
   have:=Nat.eq_of_beq_eq_true hb
   subst h; subst this
   exact⟨[],l,rfl,fun o'=>by simp[Qhb,hb],by simp[Jx,hb]⟩
  | false =>
   rw[hb]at h
   obtain⟨l1,l2,h1,h2,h3⟩:=Jv h
   grind [Qhb,Jx]
theorem Rel.ob(h:Rel X β ρ S a w){id:Nat}{o:Ob}(ho:Qe S.mem id=some o) :
  (Q0 β ρ id o).p (okR X β ρ S.mem w) w∧∀g,(Q0 β ρ id o).blks g→X.mine g:=by
 obtain⟨l1,l2,h1,_⟩:=Jv ho
 exact h.own _ (by rw[h1]; simp[Qi])
end
end Gx

/- Maps of data: what the model does with them. -/
namespace Gx
open Go Go.RowKit Gd
set_option linter.unusedVariables false
set_option linter.unusedSimpArgs false
def Dp:Ty→Bool
 | .int _=>true
 | .bool=>true
 | .str=>true
 | _=>false
def Sj:Ty→Bool
 | .pr a r=>Dp a&&Sj r
 | .unit=>true
 | t=>Dp t
def Qa2:Ty→Bool
 | .st fs=>Sj fs
 | t=>Dp t
def eqK:(t:Ty)→t.De→t.De→Bool
 | .int _,a,b=>a==b
 | .bool,a,b=>a==b
 | .str,a,b=>a==b
 | .pr f r,a,b=>eqK f a.1 b.1&&eqK r a.2 b.2
 | .unit,_,_=>true
 | .st fs,a,b=>eqK fs a b
 | _,_,_=>false
def Qw{k:Ty}{ν:Type}(key:k.De):List (k.De×ν)→Option ν
 | []=>none
 | x::l=>bif eqK k key x.1 then some x.2 else Qw key l
def Yu{k:Ty}{ν:Type}(key:k.De)(v:ν):List (k.De×ν)→List (k.De×ν)
 | []=>[(key,v)]
 | x::l=>bif eqK k key x.1 then(key,v)::l else x::Yu key v l
def Kt:(t:Ty)→t.De→List Value
 | .int k,n=>[.int k n]
 | .bool,b=>[.bool b]
 | .str,s=>[Yk s]
 | .pr f r,x=>Kt f x.1++Kt r x.2
 | .st fs,x=>Kt fs x
 | _,_=>[]
def Yw:(t:Ty)→t.De→Value
 | .int k,n=>.int k n
 | .bool,b=>.bool b
 | .str,s=>Yk s
 | .st fs,x=>.agg (Kt fs x).toArray
 | _,_=>undef
theorem Qbn{t:Ty}(ht:Dp t=true){ok:Ok}{w:World}{x:t.De}{cs:List Value}:(rt t).rep ok w x cs↔cs=Kt t x:=by
 cases t<;>simp[Dp]at ht<;>exact Iff.rfl
theorem Qhc:∀{t:Ty},Sj t=true→∀{ok:Ok} {w:World} {x:t.De} {cs:List Value},(rt t).rep ok w x cs↔cs=Kt t x
 | .pr f r,ht,ok,w,x,cs=>by
  simp only[Sj,QQ]at ht
  constructor
  ·rintro⟨c1,c2,rfl,h1,h2⟩
   rw[(Qbn ht.1).1 h1,(Qhc ht.2).1 h2]; rfl
  ·rintro rfl
   exact⟨_,_,rfl,(Qbn ht.1).2 rfl,(Qhc ht.2).2 rfl⟩
 | .unit,ht,ok,w,x,cs=>Iff.rfl
 | .int _,ht,ok,w,x,cs=>Qbn ht
 | .bool,ht,ok,w,x,cs=>Qbn ht
 | .str,ht,ok,w,x,cs=>Qbn ht
 | .sl _,ht,_,_,_,_=>by simp[Sj,Dp]at ht
 | .arr _ _,ht,_,_,_,_=>by simp[Sj,Dp]at ht
 | .st _,ht,_,_,_,_=>by simp[Sj,Dp]at ht
theorem Qys{t:Ty}(ht:Qa2 t=true){ok:Ok}{w:World}{x:t.De}{v:Value}:isV (rt t) ok w x v↔v=Yw t x:=by
 cases t with
 | int k=>exact Jh6
 | bool=>exact Qoc
 | str=>exact Jh7
 | st fs =>
  constructor
  ·rintro⟨cs,h,rfl⟩
   rw[(Qhc ht).1 h]; rfl
  ·rintro rfl
   exact⟨_,(Qhc ht).2 rfl,rfl⟩
 | _=>simp[Qa2,Dp]at ht
theorem Cn{t:Ty}(ht:Qa2 t=true){ok:Ok}{w:World}{x:t.De}{v:Value}(h:isV (rt t) ok w x v):v=Yw t x:=(Qys ht).1 h
theorem Q6i{t:Ty}(ht:Qa2 t=true){ok:Ok}{w:World}(x:t.De):isV (rt t) ok w x (Yw t x):=(Qys ht).2 rfl
theorem Sl{t:Ty}(ht:Dp t=true){x y:t.De}:eqK t x y=true↔x=y:=by
 cases t<;>simp[Dp]at ht<;>simp[eqK]
theorem Q6j:∀{t:Ty},Sj t=true→∀{x y:t.De},eqK t x y=true↔x=y
 | .pr f r,ht,x,y=>by
  simp only[Sj,QQ]at ht
  obtain⟨x1,x2⟩:=x
  obtain⟨y1,y2⟩:=y
  simp only[eqK,QQ,Sl ht.1,Q6j ht.2,Prod.mk.injEq]
 | .unit,ht,x,y=>by simp[eqK]
 | .int _,ht,x,y=>Sl ht
 | .bool,ht,x,y=>Sl ht
 | .str,ht,x,y=>Sl ht
 | .sl _,ht,_,_=>by simp[Sj,Dp]at ht
 | .arr _ _,ht,_,_=>by simp[Sj,Dp]at ht
 | .st _,ht,_,_=>by simp[Sj,Dp]at ht
theorem K1{t:Ty}(ht:Qa2 t=true){x y:t.De}:eqK t x y=true↔x=y:=by
 cases t with
 | st fs=>exact Q6j (t:=fs) ht
 | int k=>exact Sl (t:=.int k) rfl
 | bool=>exact Sl (t:=.bool) rfl
 | str=>exact Sl (t:=.str) rfl
 | _=>simp[Qa2,Dp]at ht
def Xz:Ty→TypeDesc→Bool
 | .int k,.int k'=>Pt k k'
 | .bool,.bool=>true
 | .str,.string=>true
 | _,_=>false
def Q9m(T:Tab)(f:Field)(t:Ty)(i:Nat):Bool:=f.name != "_" && Nat.beq f.offset i&&(match Qh T f.type with
 | some e=>Xz t e.d
 | none=>false)
def Gh(T:Tab):List Field→Ty→Nat→Bool
 | [],.unit,_=>true
 | [f],t,i=>Q9m T f t i
 | f::g::fs,.pr a r,i=>Q9m T f a i&&Gh T (g::fs) r (i+1)
 | _,_,_=>false
def Y5(T:Tab):Ty→TypeDesc→Bool
 | .st fs,.struct ⟨fds⟩=>Gh T fds fs 0
 | t,d=>Xz t d
theorem Bo{t:Ty}{d:TypeDesc}(h:Xz t d=true):Dp t=true:=by
 cases t<;>cases d<;>simp[Xz]at h<;>rfl
theorem Ch{T:Tab}{f:Field}{t:Ty}{i:Nat}(h:Q9m T f t i=true):(f.name != "_")=true∧f.offset=i∧∃e,Qh T f.type=some e∧Xz t e.d=true:=by
 simp only[Q9m,QQ]at h
 grind [Nat.eq_of_beq_eq_true]
theorem Qle{T:Tab}:∀{fds:List Field} {t:Ty} {i:Nat},Gh T fds t i=true→Sj t=true
 | [],t,i,h=>by cases t<;>simp[Gh]at h; rfl
 | [f],t,i,h=>by
  simp only[Gh]at h
  obtain⟨_,_,e,_,h3⟩:=Ch h
  have:=Bo h3
  cases t<;>simp[Dp]at this<;>rfl
 | f::g::fs,t,i,h=>by
  cases t<;>simp only[Gh,QQ]at h
  all_goals first | (cases h; done) | skip
  obtain⟨_,_,e,_,h3⟩:=Ch h.1
  simp only[Sj,QQ]
  exact⟨Bo h3,Qle h.2⟩
theorem Vp{T:Tab}{t:Ty}{d:TypeDesc}(h:Y5 T t d=true):Qa2 t=true:=by
 cases t with
 | st fs =>
  cases d<;>simp[Y5,Xz]at h
  rename_i fds
  obtain⟨fds⟩:=fds
  exact Qle h
 | _=>cases d<;>simp[Y5,Xz]at h<;>rfl
theorem Le{t:Ty}(h:Dp t=true)(x:t.De):Kt t x=[Yw t x]:=by
 cases t<;>simp[Dp]at h<;>rfl
section
variable {P:Program} {T:Tab}
theorem Qyt(hT:Q6 P T){f:Field}{t:Ty}{i:Nat}(h:Q9m T f t i=true){fs:List Field}{p1 p2 r1 r2:List Value}{x y:t.De}(h1:p1.length=i)(h2:p2.length=i){q:Bool}
  (hq:Qok T fs (p1++Kt t x++r1) (p2++Kt t y++r2)=some q):Qok T (f::fs) (p1++Kt t x++r1) (p2++Kt t y++r2)=some (eqK t x y&&q):=by
 obtain⟨_,ho,e,he,hs⟩:=Ch h
 obtain⟨e1,e2,e3,e4,e5⟩:=e
 have g1:(p1++Kt t x++r1)[f.offset]?=some (Yw t x):=by
  rw[Le (Bo hs),ho,←h1]; simp
 have g2:(p2++Kt t y++r2)[f.offset]?=some (Yw t y):=by
  rw[Le (Bo hs),ho,←h2]; simp
 unfold Qok
 rw[he,g1,g2,hq]
 cases t<;>cases e2<;>simp[Xz]at hs
 ·rename_i k k'
  simp only[Yw]
  rw[show Pt k k=true from by cases k<;>rfl]
  rfl
 ·rfl
 ·rfl
theorem Qyu(hT:Q6 P T):∀{fds:List Field} {t:Ty} {i:Nat},Gh T fds t i=true→∀{p1 p2:List Value} {x y:t.De},p1.length=i→p2.length=i →
  Qok T fds (p1++Kt t x) (p2++Kt t y)=some (eqK t x y)∧Od fds=true
 | [],t,i,h,p1,p2,x,y,h1,h2=>by
  cases t<;>simp[Gh]at h
  exact⟨rfl,rfl⟩
 | [f],t,i,h,p1,p2,x,y,h1,h2=>by
  simp only[Gh]at h
  have hb:Od [f]=true:=by simp only[Od,XX,List.all_nil,Bool.and_true]; exact(Ch h).1
  refine⟨?_,hb⟩
  have:=Qyt hT h (fs:=[]) (r1:=[]) (r2:=[]) (x:=x) (y:=y) h1 h2 rfl
  grind
 | f::g::fs,t,i,h,p1,p2,x,y,h1,h2=>by
  cases t<;>simp only[Gh,QQ]at h
  all_goals first | (cases h; done) | skip
  rename_i a r
  obtain⟨x1,x2⟩:=x
  obtain⟨y1,y2⟩:=y
  have hs:=Bo (Ch h.1).2.2.choose_spec.2
  have l1:(Kt a x1).length=1:=by rw[Le hs]; rfl
  have l2:(Kt a y1).length=1:=by rw[Le hs]; rfl
  obtain⟨q1,q2⟩:=Qyu hT h.2 (p1:=p1++Kt a x1) (p2:=p2++Kt a y1) (x:=x2) (y:=y2) (by simp[l1,h1]) (by simp[l2,h2])
  refine⟨?_,?_⟩
  ·have:=Qyt hT h.1 (fs:=g::fs) (r1:=Kt r x2) (r2:=Kt r y2) (x:=x1) (y:=y1) h1 h2 q1
   grind [Kt,eqK,List.append_assoc]
  ·simp only[Od,XX,QQ]at q2 ⊢
   grind [Ch]
theorem Qfm(hT:Q6 P T){kt:TypeId}{te:TE}(ht:Qh T kt=some te){t:Ty}(h:Y5 T t te.d=true)(x y:t.De)(w:World):(Op.equal kt (Yw t x) (Yw t y)).run P w=.ok (eqK t x y) w:=by
 have hu:=(Jq hT ht).2
 cases t with
 | st fs =>
  obtain⟨e1,e2,e3,e4,e5⟩:=te
  cases e2<;>simp[Y5,Xz]at h
  rename_i fds
  obtain⟨fds⟩:=fds
  have hf:P.fieldsOf kt=⟨fds⟩:=by simp[Program.fieldsOf,hu]
  have:=run_equalIn_struct (P:=P) w 9999 kt (Kt fs x).toArray (Kt fs y).toArray (by rw[hf,hu]) (Qyb hT ht).1
  rw[hf]at this
  show(Op.equalIn 10000 kt _ _).run P w=_
  simp only[Yw]
  rw[this]
  obtain⟨q1,q2⟩:=Qyu hT h (p1:=[]) (p2:=[]) (x:=x) (y:=y) rfl rfl
  grind [eqK,Qvm]
 | int k =>
  obtain⟨e1,e2,e3,e4,e5⟩:=te
  cases e2<;>simp[Y5,Xz]at h
  exact run_equalIn_int w 9999 kt k _ x y hu
 | bool =>
  obtain⟨e1,e2,e3,e4,e5⟩:=te
  cases e2<;>simp[Y5,Xz]at h
  exact run_equalIn_bool' w 9999 kt x y hu
 | str =>
  obtain⟨e1,e2,e3,e4,e5⟩:=te
  cases e2<;>simp[Y5,Xz]at h
  show(Op.equalIn 10000 kt _ _).run P w=_
  simp only[Yw,Yk]
  rw[run_equalIn_string w 9999 kt ⟨⟨x⟩⟩ ⟨⟨y⟩⟩ hu]
  rw[show(ByteArray.mk ⟨x⟩).toList=x from ByteArray.toList_mk x,show(ByteArray.mk ⟨y⟩).toList=y from ByteArray.toList_mk y]
  rfl
 | _=>cases te with | mk e1 e2 e3 e4 e5=>cases e2<;>simp[Y5,Xz]at h
theorem Lf(hT:Q6 P T){kt:TypeId}{te:TE}(ht:Qh T kt=some te){t:Ty}(h:Y5 T t te.d=true)(key:t.De)(w:World){ν:Type}{s:RT ν}{ok:Ok}:∀{xs:List (t.De×ν)} {es:List MapEntry} (i:Nat),Do (rt t) s ok w xs es →
  (Qw key xs=none∧(Instr.findAsking kt (Yw t key) es i).run P w=.ok none w∧(Instr.findNow te.d (Yw t key) es i=some none∨Instr.findNow te.d (Yw t key) es i=none)) ∨
  (∃(j:Nat) (e:MapEntry) (y:ν),Qw key xs=some y∧(Instr.findAsking kt (Yw t key) es i).run P w=.ok (some (i+j,e.val)) w∧(Instr.findNow te.d (Yw t key) es i=some (some (i+j,e.val))∨Instr.findNow te.d (Yw t key) es i=none)∧es[j]?=some e∧e.key=Yw t key∧isV s ok w y e.val)
 | [],es,i,hp=>by
  have:es=[]:=hp
  subst this
  exact .inl ⟨rfl,rfl,.inl rfl⟩
 | x::xs,es,i,hp=>by
  obtain⟨e,es',rfl,h1,h2,h3⟩:=hp
  have hk:=Cn (Vp h) h1
  have heq:=Qfm hT ht h key x.1 w
  have qt:Instr.sameNow te.d (Yw t key) e.key=some (eqK t key x.1)∨Instr.sameNow te.d (Yw t key) e.key=none:=by
   rw[hk]
   cases t with
   | st fs=>exact .inr (by cases te with | mk e1 e2 e3 e4 e5=>cases e2<;>rfl)
   | int k =>
    obtain⟨e1,e2,e3,e4,e5⟩:=te
    cases e2<;>simp[Y5,Xz]at h
    grind [Instr.sameNow,Yw,eqK]
   | bool =>
    grind [Y5,Xz,Instr.sameNow,Yw,eqK]
   | str =>
    obtain⟨e1,e2,e3,e4,e5⟩:=te
    cases e2<;>simp[Y5,Xz]at h
    refine .inl ?_
    simp only[Instr.sameNow,Yw,eqK,Yk]
    congr 1
    rw[Bool.eq_iff_iff,MapKept.bytes_beq]
    simp
   | _=>cases te with | mk e1 e2 e3 e4 e5=>cases e2<;>simp[Y5,Xz]at h
  simp only[Qw,Instr.findNow,Instr.findAsking,Sem.run_bind,hk,heq,Result.andThen_ok]
  rw[hk]at qt
  cases he:eqK t key x.1 with
  | true =>
   have:=(K1 (Vp h)).1 he
   refine .inr ⟨0,e,x.2,rfl,by simp,?_,rfl,by rw[hk,this],h2⟩
   rcases qt with qt | qt<;>rw[qt]
   ·rw[he]; exact .inl rfl
   ·exact .inr rfl
  | false =>
   rcases Lf hT ht h key w (i+1) h3 with⟨q1,q2,q3⟩ | ⟨j,e',y,q1,q2,q3,q4,q5,q6⟩
   ·grind
   ·have ea:i+1+j=i+(j+1):=by omega
    rw[ea]at q2 q3
    refine .inr ⟨j+1,e',y,q1,by simpa using q2,?_,q4,q5,q6⟩
    rcases qt with qt | qt<;>rw[qt]
    ·rw[he]; exact q3
    ·exact .inr rfl
theorem Qhd(hT:Q6 P T){kt:TypeId}{te:TE}(ht:Qh T kt=some te){t:Ty}(h:Y5 T t te.d=true)(key:t.De)(w:World){ν:Type}{s:RT ν}{ok:Ok}{xs:List (t.De×ν)}{es:List MapEntry}(hp:Do (rt t) s ok w xs es) :
  (Qw key xs=none∧(Instr.findKey kt (Yw t key) es).run P w=.ok none w) ∨
  (∃(j:Nat) (e:MapEntry) (y:ν),Qw key xs=some y∧(Instr.findKey kt (Yw t key) es).run P w=.ok (some (j,e.val)) w∧es[j]?=some e∧e.key=Yw t key∧isV s ok w y e.val):=by
 have hu:=(Jq hT ht).2
 rcases Lf hT ht h key w 0 hp with⟨q1,q2,q3⟩ | ⟨j,e,y,q1,q2,q3,q4,q5,q6⟩
 ·refine .inl ⟨q1,?_⟩
  rcases q3 with q3 | q3
  ·exact MapKept.run_findKey hu q3
  simp_all [Instr.findKey,run_underlying,Result.andThen]
 ·rw[QK]at q2 q3
  refine .inr ⟨j,e,y,q1,?_,q4,q5,q6⟩
  rcases q3 with q3 | q3
  ·exact MapKept.run_findKey hu q3
  simp_all [Instr.findKey,run_underlying,Result.andThen]
theorem Qhe(hT:Q6 P T){f:Field}{t:Ty}{i:Nat}(h:Q9m T f t i=true){p r:List Value}{x:t.De}(h1:p.length=i)(w:World)(e:Bool)(n:Nat) :
  (part f.type (p++Kt t x++r).toArray f.offset).run P w=.ok (Yw t x) w∧(Instr.checkKey e (n+1) f.type (Yw t x)).run P w=.ok () w:=by
 obtain⟨_,ho,te,he,hs⟩:=Ch h
 have hu:=(Jq hT he).2
 have g1:(p++Kt t x++r)[f.offset]?=some (Yw t x):=by
  rw[Le (Bo hs),ho,←h1]; simp
 refine⟨Qfl hT he ?_ g1,?_⟩
 ·obtain⟨e1,e2,e3,e4,e5⟩:=te
  cases t<;>cases e2<;>simp[Xz]at hs<;>rfl
 ·refine MapKept.run_checkKey hu ?_ e n
  obtain⟨e1,e2,e3,e4,e5⟩:=te
  cases t<;>cases e2<;>simp[Xz]at hs
  ·rename_i a b
   have:=Cl hs
   exact this
  ·trivial
  ·trivial
theorem Qab(hT:Q6 P T)(w:World)(e:Bool)(n:Nat){body:Field→PUnit→Sem (ForInStep PUnit)}{cs:List Value}
  (iz:∀(f:Field) (v:Value),f.name ≠ "_" → (part f.type cs.toArray f.offset).run P w=.ok v w→(Instr.checkKey e (n+1) f.type v).run P w=.ok () w→(body f ⟨⟩).run P w=.ok (ForInStep.yield ⟨⟩) w):∀{fds:List Field} {t:Ty} {i:Nat},Gh T fds t i=true→∀{p:List Value} {x:t.De},p.length=i→cs=p++Kt t x →
  (forIn fds PUnit.unit body).run P w=.ok ⟨⟩ w
 | [],t,i,h,p,x,h1,hc=>by simp
 | [f],t,i,h,p,x,h1,hc=>by
  simp only[Gh]at h
  have hn:f.name ≠ "_" := by grind [Ch]
  obtain⟨q1,q2⟩:=Qhe hT h (r:=[]) (x:=x) h1 w e n
  rw[QH,←hc]at q1
  simp_all
 | f::g::fs,t,i,h,p,x,h1,hc=>by
  cases t<;>simp only[Gh,QQ]at h
  all_goals first | (cases h; done) | skip
  rename_i a r
  obtain⟨x1,x2⟩:=x
  have hs:=Bo (Ch h.1).2.2.choose_spec.2
  have l1:(Kt a x1).length=1:=by rw[Le hs]; rfl
  have hn:f.name ≠ "_" := by grind [Ch]
  obtain⟨q1,q2⟩:=Qhe hT h.1 (r:=Kt r x2) (x:=x1) h1 w e n
  have yz:cs=p++Kt a x1++Kt r x2:=by rw[hc]; simp[Kt]
  rw[←yz]at q1
  have ih:=Qab hT w e n iz h.2 (p:=p++Kt a x1) (x:=x2) (by simp[l1,h1]) yz
  rw[List.forIn_cons]
  simp_all
theorem Hz(hT:Q6 P T){kt:TypeId}{te:TE}(ht:Qh T kt=some te){t:Ty}(h:Y5 T t te.d=true)(x:t.De)(w:World)(e:Bool):(Instr.checkKey e 10000 kt (Yw t x)).run P w=.ok () w:=by
 have hu:=(Jq hT ht).2
 cases t with
 | st fs =>
  obtain⟨e1,e2,e3,e4,e5⟩:=te
  cases e2<;>simp[Y5,Xz]at h
  rename_i fds
  obtain⟨fds⟩:=fds
  unfold Instr.checkKey
  simp only[Sem.run_bind,run_underlying hu,Result.andThen,Yw]
  simp only[List.forIn_toArray]
  rw[Qab hT w e 9998 (cs:=Kt fs x) (fun f v hn h1 h2=>by simp_all) h (p:=[]) (x:=x) rfl rfl]
  rfl
 | int k =>
  obtain⟨e1,e2,e3,e4,e5⟩:=te
  cases e2<;>simp[Y5,Xz]at h
  exact MapKept.run_checkKey hu (show MapKept.IsKey (.int _) (.int k x)from Cl h) e 9999
 | bool =>
  obtain⟨e1,e2,e3,e4,e5⟩:=te
  cases e2<;>simp[Y5,Xz]at h
  exact MapKept.run_checkKey hu (show MapKept.IsKey .bool (.bool x)from trivial) e 9999
 | str =>
  obtain⟨e1,e2,e3,e4,e5⟩:=te
  cases e2<;>simp[Y5,Xz]at h
  exact MapKept.run_checkKey hu (show MapKept.IsKey .string (Yk x)from trivial) e 9999
 | _=>cases te with | mk e1 e2 e3 e4 e5=>cases e2<;>simp[Y5,Xz]at h
theorem H0{t:Ty}(h:Dp t=true)(x:t.De)(n:Nat):Instr.sameBits n (Yw t x) (Yw t x)=true:=by
 cases t<;>simp[Dp]at h<;>cases n<;>simp[Instr.sameBits,Yw,Yk]
 all_goals rw[MapKept.bytes_beq]
theorem Qot{n:Nat}:∀{t:Ty},Sj t=true→∀(x:t.De),((Kt t x).zip (Kt t x)).all (fun(x,y)=>Instr.sameBits n x y)=true
 | .pr f r,ht,x=>by
  simp only[Sj,QQ]at ht
  have ih:=Qot (n:=n) ht.2 x.2
  simp only[Kt,Le ht.1,List.singleton_append,List.zip_cons_cons,XX,H0 ht.1,ih,Bool.and_self]
 | .unit,ht,x=>rfl
 | .int k,ht,x=>by have:=H0 (t:=.int k) rfl x n; simp_all [Kt,Yw]
 | .bool,ht,x=>by have:=H0 (t:=.bool) rfl x n; simp_all [Kt,Yw]
 | .str,ht,x=>by have:=H0 (t:=.str) rfl x n; simp_all [Kt,Yw]
 | .sl _,ht,_=>by simp[Sj,Dp]at ht
 | .arr _ _,ht,_=>by simp[Sj,Dp]at ht
 | .st _,ht,_=>by simp[Sj,Dp]at ht
theorem Q9n{t:Ty}(h:Qa2 t=true)(x:t.De)(w:World):(Instr.keyThatStays (Yw t x) (Yw t x)).run P w=.ok (Yw t x) w:=by
 have:Instr.sameBits 10000 (Yw t x) (Yw t x)=true:=by
  cases t with
  | st fs =>
   have:=Qot (n:=9999) h x
   grind [Yw,Instr.sameBits]
  | int k=>exact H0 (t:=.int k) rfl x _
  | bool=>exact H0 (t:=.bool) rfl x _
  | str=>exact H0 (t:=.str) rfl x _
  | _=>simp[Qa2,Dp]at h
 simp[Instr.keyThatStays,this]
theorem Qou(hT:Q6 P T){t kt et:TypeId}{te tk tz:TE}(ht:Qh T t=some te)(kr:te.d=.map kt et)(hk:Qh T kt=some tk)(hz:Qh T et=some tz)
  {k:Ty} {ν:Type} {s:RT ν} (hd:Y5 T k tk.d=true) {ok:Ok} {w:World} {g:Nat} {es:Array MapEntry} {clock:Nat} (hg:w.heap[g]?=some (.map es clock)) {xs:List (k.De×ν)} (hp:Do (rt k) s ok w xs es.toList)
  (key:k.De) {z:ν} (hzv:isV s ok w z tz.z) (c:Bool) :
  ∃v,(Instr.lookup t (.map (some g)) (Yw k key) c).run P w=.ok (if c=true then .tuple #[v,.bool (Qw key xs).isSome]else v) w∧isV s ok w ((Qw key xs).getD z) v ∧
   (Qw key xs=none∧v=tz.z∨∃(j:Nat) (e:MapEntry),es.toList[j]?=some e∧e.key=Yw k key∧v=e.val):=by
 have hu:=(Jq hT ht).2
 rw[kr]at hu
 have hzr:(zeroValue et).run P w=.ok tz.z w:=Vx hT w hz
 rcases Qhd hT hk hd key w hp with⟨q1,q2⟩ | ⟨j,e,y,q1,q2,q3,q4,q5⟩
 ·refine⟨tz.z,?_,by rw[q1]; exact hzv,.inl ⟨q1,rfl⟩⟩
  simp[Instr.lookup,run_underlying hu,MapKept.run_getObj_map hg,Hz hT hk hd,q2,hzr,Result.andThen,q1]
 ·refine⟨e.val,?_,by rw[q1]; exact q5,.inr ⟨j,e,q3,q4,rfl⟩⟩
  simp[Instr.lookup,run_underlying hu,MapKept.run_getObj_map hg,Hz hT hk hd,q2,Result.andThen,q1]
theorem Qrx(hT:Q6 P T){t kt et:TypeId}{te tk tz:TE}(ht:Qh T t=some te)(kr:te.d=.map kt et)(hk:Qh T kt=some tk)(hz:Qh T et=some tz)
  {k:Ty} (hd:Y5 T k tk.d=true) {w:World} (key:k.De) (c:Bool) :
  (Instr.lookup t (.map none) (Yw k key) c).run P w=.ok (if c=true then .tuple #[tz.z,.bool false]else tz.z) w:=by
 have hu:=(Jq hT ht).2
 rw[kr]at hu
 have hzr:(zeroValue et).run P w=.ok tz.z w:=Vx hT w hz
 rcases Qhd (ok:=fun _ _=>True) hT hk hd key w (s:=Qx6) (xs:=[]) (es:=[]) rfl with⟨q1,q2⟩ | ⟨j,e,y,q1,q2,q3,q4,q5⟩
 ·simp[Instr.lookup,run_underlying hu,Hz hT hk hd,q2,hzr,Result.andThen]
 ·simp at q3
theorem Q6k(hT:Q6 P T){kt:TypeId}{te:TE}(ht:Qh T kt=some te){k:Ty}(h:Y5 T k te.d=true)(key:k.De){ν:Type}{s:RT ν}{ok:Ok}{w:World}{y:ν}{v:Value}(hv:isV s ok w y v):∀{xs:List (k.De×ν)} {es:List MapEntry},Do (rt k) s ok w xs es →
  (Qw key xs=none∧∀c,Do (rt k) s ok w (Yu key y xs) (es++[⟨Yw k key,v,c⟩])) ∨
  (∃(j:Nat) (e:MapEntry),(∀i,(Instr.findAsking kt (Yw k key) es i).run P w=.ok (some (i+j,e.val)) w)∧es[j]?=some e∧e.key=Yw k key∧Do (rt k) s ok w (Yu key y xs) (es.modify j fun e=>{ e with key:=Yw k key,val:=v }))
 | [],es,hp=>by
  have:es=[]:=hp
  subst this
  exact .inl ⟨rfl,fun c=>⟨_,[],rfl,Q6i (Vp h) key,hv,rfl⟩⟩
 | x::xs,es,hp=>by
  obtain⟨e,es',rfl,h1,h2,h3⟩:=hp
  have hk:=Cn (Vp h) h1
  have heq:=Qfm hT ht h key x.1 w
  simp only[Yu,Qw,Instr.findAsking,Sem.run_bind,hk,heq,Result.andThen_ok]
  cases he:eqK k key x.1 with
  | true =>
   have:=(K1 (Vp h)).1 he
   exact .inr ⟨0,e,by simp,rfl,by rw[hk,this],⟨_,es',rfl,Q6i (Vp h) key,hv,h3⟩⟩
  | false =>
   rcases Q6k hT ht h key hv h3 with⟨q1,q2⟩ | ⟨j,e',q2,q3,q4,q5⟩
   ·exact .inl ⟨q1,fun c=>⟨e,_,rfl,h1,h2,q2 c⟩⟩
   ·exact .inr ⟨j+1,e',fun i=>by rw[show i+(j+1)=i+1+j by omega]; grind,q3,q4,⟨e,_,rfl,h1,h2,q5⟩⟩
def Qbo(es:Array MapEntry)(clock:Nat):Prop:=(es.toList.map MapEntry.born).Nodup∧∀e∈es.toList,e.born<clock
theorem Qdr{k:Ty}{ν:Type}(hk:Qa2 k=true)(key:k.De)(y:ν):∀{xs:List (k.De×ν)},(xs.map Prod.fst).Nodup→((Yu key y xs).map Prod.fst).Nodup∧∀z∈(Yu key y xs).map Prod.fst,z=key∨z∈xs.map Prod.fst
 | [],_=>⟨by simp[Yu],by simp[Yu]⟩
 | x::xs,h=>by
  simp only[Yu]
  have h1:=QT.1 h
  cases he:eqK k key x.1 with
  | true =>
   have:=(K1 hk).1 he
   grind
  | false =>
   obtain⟨h2,h3⟩:=Qdr hk key y h1.2
   refine⟨?_,fun z hz=>?_⟩
   ·simp only[cond_false,QP,QT]
    refine⟨fun hm=>?_,h2⟩
    rcases h3 _ hm with hm | hm
    ·rw[hm,(K1 hk).2 rfl]at he; cases he
    ·exact h1.1 hm
   grind
theorem Qhf(hT:Q6 P T){t kt et:TypeId}{te tk:TE}(ht:Qh T t=some te)(kr:te.d=.map kt et)(hk:Qh T kt=some tk)
  {k:Ty} (hd:Y5 T k tk.d=true) {w:World} {g:Nat} {es:Array MapEntry} {clock:Nat} (hg:w.heap[g]?=some (.map es clock)) (key:k.De) {v:Value} :
  ((Instr.findKey kt (Yw k key) es.toList).run P w=.ok none w→(Instr.mapUpdate t (.map (some g)) (Yw k key) v).run P w=.ok () { w with heap:=w.heap.setIfInBounds g (.map (es.push ⟨Yw k key,v,clock⟩) (clock+1)) }) ∧
  (∀j e,(Instr.findKey kt (Yw k key) es.toList).run P w=.ok (some (j,e.val)) w→es.toList[j]?=some e→e.key=Yw k key →
   (Instr.mapUpdate t (.map (some g)) (Yw k key) v).run P w=.ok () { w with heap:=w.heap.setIfInBounds g (.map (es.modify j fun e=>{ e with key:=Yw k key,val:=v }) clock) }):=by
 have hu:=(Jq hT ht).2
 rw[kr]at hu
 refine⟨fun q=>?_,fun j e q2 q3 q4=>?_⟩
 ·simp[Instr.mapUpdate,run_underlying hu,MapKept.run_getObj_map hg,Hz hT hk hd,q,MapKept.run_setObj_map _ hg,Result.andThen]
 ·have hj:es[j]?=some e:=by simpa using q3
  simp[Instr.mapUpdate,run_underlying hu,MapKept.run_getObj_map hg,Hz hT hk hd,q2,hj,q4,Q9n (Vp hd),MapKept.run_setObj_map _ hg,Result.andThen]
theorem Q3y{es:Array MapEntry}{clock:Nat}(zj:Qbo es clock)(kv v:Value):Qbo (es.push ⟨kv,v,clock⟩) (clock+1):=by
 refine⟨?_,fun e he=>?_⟩
 ·simp only[Array.toList_push,QB,QP,ZY]
  refine List.nodup_append.2 ⟨zj.1,by simp,fun a ha b hb=>?_⟩
  obtain⟨e,he,rfl⟩:=QZ.1 ha
  simp at hb; subst hb
  exact Nat.ne_of_lt (zj.2 e he)
 ·simp only[Array.toList_push,QX,JW]at he
  rcases he with he | rfl
  ·exact Nat.lt_succ_of_lt (zj.2 e he)
  grind
theorem Qvq{es:Array MapEntry}{clock:Nat}(zj:Qbo es clock)(kv v:Value)(j:Nat):Qbo (es.modify j fun e=>{ e with key:=kv,val:=v }) clock:=by
 have sq:∀(l:List MapEntry) (j:Nat),(l.modify j fun e=>{ e with key:=kv,val:=v }).map MapEntry.born=l.map MapEntry.born:=by
  intro l
  induction l with
  | nil=>grind
  | cons x l ih=>grind
 refine⟨?_,fun e he=>?_⟩
 ·rw[Array.toList_modify,sq]; exact zj.1
 ·have hb:e.born∈(es.toList.modify j fun e=>{ e with key:=kv,val:=v }).map MapEntry.born:=QZ.2 ⟨e,by simpa using he,rfl⟩
  rw[sq]at hb
  obtain⟨e',qu,hbe⟩:=QZ.1 hb
  rw[←hbe]; exact zj.2 e' qu
theorem Qfn(hT:Q6 P T){kt:TypeId}{te:TE}(ht:Qh T kt=some te){t:Ty}(h:Y5 T t te.d=true)(key:t.De)(w:World){ν:Type}{s:RT ν}{ok:Ok}{xs:List (t.De×ν)}{es:List MapEntry}(hp:Do (rt t) s ok w xs es)
  {r:Option (Nat×Value)} (hr:(Instr.findAsking kt (Yw t key) es 0).run P w=.ok r w):(Instr.findKey kt (Yw t key) es).run P w=.ok r w:=by
 have hu:=(Jq hT ht).2
 rcases Lf hT ht h key w 0 hp with⟨q1,q2,q3⟩ | ⟨j,e,y,q1,q2,q3,q4,q5,q6⟩
 ·rw[hr]at q2; injection q2 with q2; subst q2
  rcases q3 with q3 | q3
  ·exact MapKept.run_findKey hu q3
  simp_all [Instr.findKey,run_underlying,Result.andThen]
 ·rw[hr]at q2; injection q2 with q2; subst q2
  rcases q3 with q3 | q3
  ·exact MapKept.run_findKey hu q3
  simp_all [Instr.findKey,run_underlying,Result.andThen]
theorem Qex(hT:Q6 P T){t kt et:TypeId}{te tk:TE}(ht:Qh T t=some te)(kr:te.d=.map kt et)(hk:Qh T kt=some tk)
  {k:Ty} {ν:Type} {s:RT ν} (hd:Y5 T k tk.d=true) {ok:Ok} {w:World} {g:Nat} {es:Array MapEntry} {clock:Nat} (hg:w.heap[g]?=some (.map es clock)) {xs:List (k.De×ν)} (hp:Do (rt k) s ok w xs es.toList) (zj:Qbo es clock)
  (key:k.De) {y:ν} {v:Value} (hv:isV s ok w y v) :
  ∃es' clock',(Instr.mapUpdate t (.map (some g)) (Yw k key) v).run P w=.ok () { w with heap:=w.heap.setIfInBounds g (.map es' clock') }∧Do (rt k) s ok w (Yu key y xs) es'.toList∧Qbo es' clock':=by
 rcases Q6k hT hk hd key hv hp with⟨q1,q2⟩ | ⟨j,e,q2,q3,q4,q5⟩
 ·rcases Qhd hT hk hd key w hp with⟨r1,r2⟩ | ⟨j,e,y',r1,_⟩
  ·exact⟨_,_,(Qhf hT ht kr hk hd hg key).1 r2,by grind,Q3y zj _ _⟩
  grind
 ·have h2:=q2 0
  rw[QK]at h2
  exact⟨_,_,(Qhf hT ht kr hk hd hg key).2 j e (Qfn hT hk hd key w hp h2) q3 q4,by simpa using q5,Qvq zj _ _ _⟩
end
end Gx
