/- Rows of the call's own whose elements are written. -/
import Derived.Test.YtpdhjildhjpjdaaGreatGCore
import Derived.Laws.MakeOwn
import Derived.ProofKit
import Derived.OpenShut
import Derived.Below
import Derived.ChangeSame
namespace Gd
open Go Go.RowKit
set_option linter.unusedVariables false
set_option linter.unusedSimpArgs false
theorem Bh{τ:Type}{r:RT τ}{ok:Ok}{w w':World}{xs:List τ}{cs:List Value}(h:Wb r ok w xs cs)(he:Evo ok w w'):Wb r ok w' xs cs:=((Jhv xs.length r).evo (x:=xs) ⟨rfl,h⟩ he).2
theorem Gj{τ:Type}{r:RT τ}{ok ok':Ok}{w:World}{xs:List τ}{cs:List Value}(h:Wb r ok w xs cs)(hk:∀b o,ok b o→ok' b o):Wb r ok' w xs cs:=((Jhv xs.length r).weak (x:=xs) ⟨rfl,h⟩ hk).2
theorem Qv8{τ:Type}{r:RT τ}{ok:Ok}{w:World}{xs:List τ}{cs:List Value}(h:Wb r ok w xs cs):∀c∈cs,c.oneCell'=true:=(Jhv xs.length r).flat (x:=xs) ⟨rfl,h⟩
def ml{τ:Type}(v:Value)(e:Nat)(r:RT τ)(xs:List τ):TL where
 blks:=fun g=>v.ownBlock=some g
 cov:=fun b _=>v.ownBlock=some b
 cb:=fun h=>h
 p:=fun ok w=>Wk v=xs.length∧∃cs,w.ownsRowS 0 e r.size v (Wk v) cs∧Wb r ok w xs cs
 keep:=fun⟨h1,cs,h2,h3⟩ hb he=>⟨h1,cs,Qcf h2 hb,Bh h3 he⟩
 weak:=fun⟨h1,cs,h2,h3⟩ hk=>⟨h1,cs,h2,Gj h3 hk⟩
 lt:=fun⟨_,_,h,_⟩ g hg=>(h.lt g hg).2
theorem Bi{τ:Type}{r:RT τ}{ok:Ok}{w:World}:∀{xs:List τ} {cs:List Value},Wb r ok w xs cs→∀{i:Nat} {y:τ},xs[i]?=some y→r.rep ok w y ((cs.drop (i*r.size)).take r.size)
 | x::xs,cs,⟨c1,c2,e,h1,h2⟩,i,y,hy=>by
  subst e
  have hl:=r.len h1
  cases i with
  | zero =>
   grind
  | succ i =>
   simp at hy
   have:=Bi h2 hy
   have e:(c1++c2).drop ((i+1)*r.size)=c2.drop (i*r.size):=by
    rw[Nat.add_mul,KQ,XI,←hl,←List.drop_drop,List.drop_left,hl]
   rw[e]; exact this
theorem Jh2{τ:Type}{r:RT τ}{ok:Ok}{w:World}{e:Nat}{xs:List τ}{A:Option Addr}{m c:Nat}(h:(ml (.slice A m c) e r xs).p ok w):Q2o r ok w xs A m c:=by
 obtain⟨hl,cs,hown,hr⟩:=h
 have hm:Wk (.slice A m c)=m:=rfl
 rw[hm]at hl hown
 have hrep:∀i x,xs[i]?=some x→∃ds,r.rep ok w x ds∧∀(j:Nat) u,ds[j]?=some u→cs[i*r.size+j]?=some u:=fun i x hx=>by
  refine⟨_,Bi hr hx,fun j u hu=>?_⟩
  rw[JZ]at hu
  grind
 rcases hown.2 with⟨hv,h0⟩ | ⟨g,cap,cur,fz,hv,_,_,_,hle,_⟩
 ·injection hv with e1 e2 e3
  exact⟨cs,hown.1,hl.symm,by omega,fun _=>h0,Qv8 hr,fun h=>absurd h (by omega),hrep⟩
 ·have hg:(Value.slice A m c).ownBlock=some g:=by rw[hv]; rfl
  have hcell:=hown.cells hg
  injection hv with e1 e2 e3
  exact⟨cs,hown.1,hl.symm,by omega,(fun h=>absurd (e1.symm.trans h) (by simp)),Qv8 hr,fun _=>⟨g,0,e1,fun j u hu=>by rw[←E8]; grind⟩,hrep⟩
theorem Qrt{τ:Type}{r:RT τ}{ok:Ok}{w:World}:∀{xs:List τ} {cs:List Value},Wb r ok w xs cs→∀{i:Nat} {z:τ} {ds:List Value},i<xs.length→r.rep ok w z ds →
  Wb r ok w (xs.set i z) (cs.take (i*r.size)++ds++cs.drop (i*r.size+ds.length))
 | x::xs,cs,⟨c1,c2,e,h1,h2⟩,i,z,ds,hi,hz=>by
  subst e
  have hl:=r.len h1
  have hd:=r.len hz
  cases i with
  | zero =>
   refine⟨ds,c2,?_,hz,h2⟩
   grind
  | succ i =>
   refine⟨c1,_,?_,h1,Qrt h2 (by simpa using hi) hz⟩
   have e1:(i+1)*r.size=c1.length+i*r.size:=by rw[Nat.add_mul,hl]; omega
   rw[e1,XF,List.append_assoc,List.append_assoc,List.append_assoc,XQ,List.take_of_length_le (by omega)]
   grind [Nat.add_assoc,List.drop_drop,List.drop_left]
theorem Sd{τ:Type}{r:RT τ}{ok:Ok}{w:World}:∀{xs ys:List τ} {cs ds:List Value},Wb r ok w xs cs→Wb r ok w ys ds→Wb r ok w (xs++ys) (cs++ds)
 | [],ys,cs,ds,h,h2=>by grind [Wb]
 | x::xs,ys,cs,ds,⟨c1,c2,e,h1,h3⟩,h2=>by subst e; exact⟨c1,c2++ds,by rw[List.append_assoc],h1,Sd h3 h2⟩
theorem Qk3{τ:Type}{r:RT τ}{ok:Ok}{w:World}:∀(xs:List τ) (cs:List Value),cs.length=xs.length*r.size→(∀i x,xs[i]?=some x→∃ds,r.rep ok w x ds∧∀(j:Nat) u,ds[j]?=some u→cs[i*r.size+j]?=some u)→Wb r ok w xs cs
 | [],cs,hl,_=>by simp_all [Wb,QE]
 | x::xs,cs,hl,h=>by
  obtain⟨ds,hr,hd⟩:=h 0 x rfl
  have hdl:=r.len hr
  have hl':cs.length=r.size+xs.length*r.size:=by rw[hl]; grind
  refine⟨ds,cs.drop r.size,?_,hr,Qk3 xs _ (by simp; omega) fun i y hy=>?_⟩
  ·have:cs.take r.size=ds:=by
    apply JD
    grind
   rw[←this,List.take_append_drop]
  ·obtain⟨es,he,hc⟩:=h (i+1) y (by simpa using hy)
   grind
section
variable {P:Program} {T:Tab} {β:Nat→Nat} {X:Cx} {G:GL} {D:List DF} {H:HL} {O:List TL} {a:Act} {w w':World}
variable {ops:Array Oper} {Q:Exit→Act→World→Prop} {rest:List Oper}
theorem Sb.mget(h:Sb β X G D H O a w){τ:Type}{r:RT τ}{xs:List τ}{A:Option Addr}{m c:Nat}{e:Nat}(hm:ml (.slice A m c) e r xs∈O){j:Int}{y:τ}(hy:idx xs j=some y)(hpos:0<r.size) :
  ∃g cap cur fz,A=some ⟨g,0,none⟩∧(w.heap[g]?=some (.cells cur e fz)∧Qyz fz cur.size)∧m=xs.length∧j.toNat<m∧m≤cap∧cap*r.size≤cur.size∧c=cap∧cap≤maxLen ∧
   Wb r (Je X.ok X.w.heap.size β H O w) w xs (cur.toList.take (m*r.size)):=by
 obtain⟨⟨hl,cs,hown,hr⟩,_⟩:=h.own _ hm
 obtain⟨h0,h1⟩:=He hy
 have hlt:=(List.getElem?_eq_some_iff.1 h1).1
 simp only[Wk]at hl hown
 rcases hown.2 with⟨hv,h0⟩ | ⟨g,cap,cur,fz,hv,_,hh,hfz,hle,hcm,hcs,htk⟩
 ·omega
 ·injection hv with e1 e2 e3
  exact⟨g,cap,cur,fz,e1,⟨hh,hfz⟩,hl,by omega,hle,hcs,e3,hcm,by rw[htk]; exact hr⟩
theorem Qv9{cur:Array Value}{g e:Nat}{fz:Nat×Nat}(hh:w.heap[g]?=some (.cells cur e fz))(i:Nat):w.cell? ⟨g,i,none⟩=cur.toList[i]?:=by
 simp[World.cell?,hh]
theorem Jd9(L ds:List Value){a s M off:Nat}(h1:a+s≤M)(h2:off+ds.length≤s)(h3:M≤L.length) :
  ((L.take (a+off)++ds++L.drop (a+off+ds.length)).take M) =
   (L.take M).take a++(((L.drop a).take s).take off++ds++((L.drop a).take s).drop (off+ds.length))++(L.take M).drop (a+s):=by
 apply JD
 intro i
 simp only[List.getElem?_append,JZ,JK,List.length_append,List.length_take,List.length_drop]
 grind
theorem Sb.upd(h:Sb β X G D H O a w){O1 O2:List TL}{t t':TL}(hO:O=O1++t::O2)(hos:w'.os=w.os)(htp:w'.tape=w.tape)(hout:w'.output=w.output)(hsz:w.heap.size≤w'.heap.size)
  (hblk:∀b,b<w.heap.size→¬ t.blks b→w'.heap[b]?=w.heap[b]?) (hcov:∀b o,t.blks b→t.cov b o) (hb':∀g,t'.blks g→t.blks g∨w.heap.size≤g)
  (hp:Evo (Je X.ok X.w.heap.size β H O w) w w'→(∀b o,Je X.ok X.w.heap.size β H O w b o→Je X.ok X.w.heap.size β H (O1++t'::O2) w' b o)→t'.p (Je X.ok X.w.heap.size β H (O1++t'::O2) w') w') :
  Sb β X G D H (O1++t'::O2) a w':=by
 subst hO
 have hmem:t∈O1++t::O2:=by simp
 have hmine:=(h.own _ hmem).2
 have hevo:Evo (Je X.ok X.w.heap.size β H (O1++t::O2) w) w w':=Evo.of_blocks hsz fun b o hk=>hblk b hk.2.1 fun hb=>hk.2.2.2 t hmem (hcov b o hb)
 have hok:∀b o,Je X.ok X.w.heap.size β H (O1++t::O2) w b o→Je X.ok X.w.heap.size β H (O1++t'::O2) w' b o:=by
  rintro b o ⟨h1,h2,h3,h4⟩
  refine⟨h1,QB h2 hsz,h3,fun u hu hc=>?_⟩
  rcases QX.1 hu with hu | hu
  ·grind
  ·rcases QJ.1 hu with rfl | hu
   ·rcases hb' b (u.cb hc)with hb | hb
    ·grind
    ·omega
   grind
 have hpw:=QG.1 h.dOO
 have hpw2:=List.pairwise_cons.1 hpw.2.1
 have hoth:∀u∈O1++O2,∀g,u.blks g→¬ t.blks g∧g<w.heap.size:=by
  intro u hu g hg
  refine⟨fun hb=>?_,h.olt (by rcases QX.1 hu with hu | hu<;>simp[hu]) hg⟩
  grind
 have hnew:∀u∈O1++O2,∀g,u.blks g→¬ t'.blks g:=by
  grind
 refine { sz:=h.sz,df:=h.df,fr:=h.fr,pn:=h.pn,tm:=h.tm,bel:=?_,dat:=(h.dat.evo hevo).weak hok,obj:=?_,own:=?_,dHH:=h.dHH,dHO:=?_,dOO:=?_ }
 ·exact h.bel.trans ⟨hos,htp,hout,hsz,fun k hk hn=>hblk k (QB hk h.bel.size) fun hb=>(hmine k hb).elim (fun h=>by omega) hn⟩
 ·intro p hp'
  refine⟨?_,(h.obj p hp').2⟩
  rw[hblk _ (h.hlt hp') (h.dHO p hp' t hmem)]
  exact(h.obj p hp').1
 ·intro u hu
  have keep:∀u∈O1++O2,u.p (Je X.ok X.w.heap.size β H (O1++t'::O2) w') w'∧∀g,u.blks g→X.mine g:=by
   intro u hu
   have hu':u∈O1++t::O2:=by rcases QX.1 hu with hu | hu<;>simp[hu]
   exact⟨u.weak (u.keep (h.own u hu').1 (fun g hg=>hblk g (hoth u hu g hg).2 (hoth u hu g hg).1) hevo) hok,(h.own u hu').2⟩
  rcases QX.1 hu with hu | hu
  ·grind
  ·rcases QJ.1 hu with rfl | hu
   ·exact⟨hp hevo hok,fun g hg=>(hb' g hg).elim (hmine g) fun hb=>.inl (QW h.bel.size hb)⟩
   grind
 ·intro p hp' u hu
  rcases QX.1 hu with hu | hu
  ·exact h.dHO p hp' u (by simp[hu])
  ·rcases QJ.1 hu with rfl | hu
   ·intro hb
    rcases hb' _ hb with hb | hb
    ·exact h.dHO p hp' t hmem hb
    ·have:=h.hlt hp'; omega
   ·exact h.dHO p hp' u (by simp[hu])
 ·refine QG.2 ⟨hpw.1,List.pairwise_cons.2 ⟨fun u hu g hg hg2=>hnew u (by simp[hu]) g hg2 hg,hpw2.2⟩,?_⟩
  grind
theorem Sb.mset(h:Sb β X G D H O a w)(O1 O2:List TL){τ:Type}{r:RT τ}{xs:List τ}{m c g:Nat}{j:Int}{y z:τ}{e:TypeId}
  (hO:O=O1++ml (.slice (some ⟨g,0,none⟩) m c) e r xs::O2) (hy:idx xs j=some y) (hpos:0<r.size) {off:Nat} {ds:List Value} (hoff:off+ds.length≤r.size) (h1:∀d∈ds,d.oneCell'=true)
  (hz:∀es,r.rep (Je X.ok X.w.heap.size β H O w) w y es→r.rep (Je X.ok X.w.heap.size β H O w) w z (es.take off++ds++es.drop (off+ds.length))) :
  ∃cur fz,(w.heap[g]?=some (.cells cur e fz)∧Qyz fz cur.size)∧j.toNat*r.size+off+ds.length≤cur.size ∧
   Sb β X G D H (O1++ml (.slice (some ⟨g,0,none⟩) m c) e r (xs.set j.toNat z)::O2) a (w.setRow g (cur.toList.take (j.toNat*r.size+off)++ds++cur.toList.drop (j.toNat*r.size+off+ds.length)).toArray):=by
 have hmem:ml (.slice (some ⟨g,0,none⟩) m c) e r xs∈O:=by rw[hO]; simp
 obtain⟨g',cap,cur,fz,hA,⟨hh,hfz⟩,hm,hj,hle,hcs,hc,hcm,hr⟩:=h.mget hmem hy hpos
 injection hA with hA; injection hA with hA; subst hA
 have hj1:(j.toNat+1)*r.size≤m*r.size:=QI _ hj
 have hj2:m*r.size≤cap*r.size:=QI _ hle
 rw[Nat.add_mul]at hj1
 have hcl:cap*r.size≤cur.toList.length:=by simpa using hcs
 have hlen:j.toNat*r.size+off+ds.length≤cur.size:=by omega
 refine⟨cur,fz,⟨hh,hfz⟩,hlen,?_⟩
 have hset:=setRow_heap w g cur (cur.toList.take (j.toNat*r.size+off)++ds++cur.toList.drop (j.toNat*r.size+off+ds.length)).toArray e _ hh
 refine h.upd (t':=ml (.slice (some ⟨g,0,none⟩) m c) e r (xs.set j.toNat z)) hO rfl rfl rfl (by simp) (fun b hb hn=>setRow_other _ _ _ _ fun e=>hn (by subst e; rfl)) (fun b o hb=>hb) (fun g hg=>.inl hg) fun hevo hok=>?_
 have hrep:=Bi hr (He hy).2
 have hdrop:(cur.toList.take (m*r.size)).drop (j.toNat*r.size)=(cur.toList.drop (j.toNat*r.size)).take (m*r.size - j.toNat*r.size):=by rw[List.drop_take]
 have e1:((cur.toList.take (m*r.size)).drop (j.toNat*r.size)).take r.size=(cur.toList.drop (j.toNat*r.size)).take r.size:=by
  rw[hdrop,XM]; congr 1; omega
 rw[e1]at hrep
 have hnew:=hz _ hrep
 have hL:((cur.toList.drop (j.toNat*r.size)).take r.size).length=r.size:=r.len hrep
 refine⟨by simp[Wk,hm],_,⟨?_,.inr ⟨g,cap,_,fz,by rw[hc]; rfl,QR _,hset,by rw[JC,List.length_append,List.length_append,List.length_take,List.length_drop,Nat.min_eq_left (by omega),show j.toNat*r.size+off+ds.length+(cur.toList.length - (j.toNat*r.size+off+ds.length))=cur.size by simp; omega]; exact hfz,hle,hcm,by rw[JC,List.length_append,List.length_append,List.length_take,List.length_drop]; omega,rfl⟩⟩,?_⟩
 ·grind [Wk,List.length_take,List.length_append,List.length_drop]
 ·have h2:=Qrt (Gj (Bh hr hevo) hok) (i:=j.toNat) (z:=z) (by omega) (r.weak (r.evo hnew hevo) hok)
  simp only[Wk]
  have hfin:=Jd9 cur.toList ds (a:=j.toNat*r.size) (s:=r.size) (M:=m*r.size) (off:=off) (by omega) hoff (by omega)
  rw[hfin]
  have hlen2:(List.take off (List.take r.size (List.drop (j.toNat*r.size) cur.toList))++ds++List.drop (off+ds.length) (List.take r.size (List.drop (j.toNat*r.size) cur.toList))).length=r.size:=by
   simp; omega
  rw[hlen2]at h2
  exact h2
def mkL{α:Type}(bytes:Nat)(l c:Int)(z:α):Option (List α):=if 0≤l∧l≤c∧(bytes:Int)*c≤281474976710656 then some (List.replicate l.toNat z)else none
theorem Qru(zc:List Value):∀l:Nat,((List.range (l*zc.length)).map fun j=>zc.getD (j % zc.length) undef)=(List.replicate l zc).flatten
 | 0=>by simp
 | l+1=>by
  rw[Nat.add_mul,KQ,List.range_add,QC,Qru zc l,List.replicate_succ',ZM]
  congr 1
  simp only[ZY,List.flatten_cons,List.flatten_nil,QH]
  apply List.ext_getElem
  ·simp
  simp_all [ZX,List.getElem_range,Function.comp,Nat.mul_comm,Nat.mul_add_mod,Nat.mod_eq_of_lt]
theorem Q2r{τ:Type}{r:RT τ}{ok:Ok}{z:τ}{zc:List Value}(h:r.rep ok w z zc):∀l,Wb r ok w (List.replicate l z) (List.replicate l zc).flatten
 | 0=>by simp[Wb]
 | l+1=>⟨zc,(List.replicate l zc).flatten,by grind,h,Q2r h l⟩
theorem Jea(hT:Q0 P T)(h:Sb β X G D H O a w){t:TypeId}{lo co:Operand}{d:Nat}{ps:String}{af:Array Edge}{ty:TypeId}{gd:Option (Nat×Bool)}
  (hg:Dh ops G ⟨some d,.makeSlice t lo co,ty,ps,af,gd⟩=some true) (hlt:okD X d=true)
  {τ:Type} {r:RT τ} {z:τ} {zs:List τ} {kl kc:IntKind} {l c:Int} {e:TypeId} {te ee:TE} (ht:Qk T t=some te) (htd:te.d=.slice e) (he:Qk T e=some ee) (hs:ee.size=r.size)
  (hzl:Nat.beq (Qu ee.z).length ee.size=true) (hby:Nat.ble 1 ee.bytes=true) (hz:∀ok w,r.rep ok w z (Qu ee.z))
  (hl:gv G lo=some (.v (.int kl l))) (hc:gv G co=some (.v (.int kc c))) (hmk:mkL ee.bytes l c z=some zs)
  (hk:∀b a' w',Sb β X (Qce G d (.v (.slice (some ⟨b,0,none⟩) zs.length c.toNat))) D H (ml (.slice (some ⟨b,0,none⟩) zs.length c.toNat) e r zs::O) a' w'→wpList P ops Q rest a' w') :
  wpList P ops Q (⟨some d,.makeSlice t lo co,ty,ps,af,gd⟩::rest) a w:=by
 unfold mkL at hmk
 split at hmk
 ·rename_i hcd
  obtain⟨h0,h1,h2⟩:=hcd
  have hzs:zs=List.replicate l.toNat z:=(Option.some.inj hmk).symm
  have hlen:zs.length=l.toNat:=by rw[hzs]; simp
  have hu:P.underlying t=some (.slice e):=by rw[(Jo hT ht).2,htd]
  obtain⟨i,hi,hz',hsi,hbi⟩:=Hd hT he
  have hby':1≤ee.bytes:=QK hby
  have hc63:c≤281474976710656:=by
   have:(1:Int)*c≤(ee.bytes:Int)*c:=Int.mul_le_mul_of_nonneg_right (by omega) (by omega)
   omega
  have hzz:=Nat.eq_of_beq_eq_true hzl
  have hr:=run_make (P:=P) w t e i ee.z hu hi hz' kl kc l c h0 h1 (by rw[hbi]; exact h2) (by omega)
  have hrun:(execOp a.eval ⟨some d,.makeSlice t lo co,ty,ps,af,gd⟩).run P w=.ok (.value (.slice (some ⟨w.heap.size,0,none⟩) zs.length c.toNat)) (w.alloc (.cells (madeCells ee.z.cells (c.toNat*i.size)) e)):=by
   unfold execOp
   simp only[h.ev hl,h.ev hc,My]
   simp[hr,hlen]
  refine Jk (Xm h hg) (Yl hrun ?_)
  have hb:Below w.heap.size w (w.alloc (.cells (madeCells ee.z.cells (c.toNat*i.size)) e)):=(Below.refl _ _).alloc (QY _) _
  have hcells:(madeCells ee.z.cells (c.toNat*i.size)).toList=(List.replicate c.toNat (Qu ee.z)).flatten:=by
   rw[←Qru,hzz,hsi]
   unfold madeCells
   rw[Ua]at hzz ⊢
   simp only[Array.toList_map,Array.toList_range]
   grind [List.map_congr_left,Nat.eq_zero_or_pos,Nat.mod_lt,List.getElem?_eq_getElem]
  refine hk _ _ _ ((h.allocTL hb (t:=ml (.slice (some ⟨w.heap.size,0,none⟩) zs.length c.toNat) e r zs) (fun g hg=>?_) ⟨rfl,(List.replicate l.toNat (Qu ee.z)).flatten,⟨?_,.inr ⟨w.heap.size,c.toNat,_,(0,0),rfl,QR _,heap_alloc_new w _,.inl rfl,?_,?_,?_,?_⟩⟩,?_⟩).put hlt (.v _))
  ·have hg:some w.heap.size=some g:=hg
   grind
  ·simp_all [Wk]
  ·grind [Wk]
  ·rw[Oi]; omega
  ·grind [Nat.le_of_eq,size_madeCells]
  ·simp only[Wk]
   rw[hcells,hlen]
   have e1:c.toNat=l.toNat+(c.toNat - l.toNat):=by omega
   rw[e1,←List.replicate_append_replicate,ZM]
   have e2:l.toNat*r.size=(List.replicate l.toNat (Qu ee.z)).flatten.length:=by simp[hzz,hs]
   rw[e2,List.take_left]
  grind [Q2r]
 ·cases hmk
end
end Gd

/- Rows that are appended to, frozen, lent to a call. -/
namespace Gd
open Go Go.RowKit
set_option linter.unusedVariables false
set_option linter.unusedSimpArgs false
section
variable {P:Program} {T:Tab} {β:Nat→Nat} {X:Cx} {G:GL} {D:List DF} {H:HL} {O:List TL} {a:Act} {w w':World}
variable {ops:Array Oper} {Q:Exit→Act→World→Prop} {rest:List Oper}
theorem Sb.addNilM(h:Sb β X G D H O a w)(e:Nat){τ:Type}(r:RT τ):Sb β X G D H (ml (.slice none 0 0) e r []::O) a w :=
 h.allocTL (Below.refl _ _) (fun g hg=>by have hg:(none:Option Nat)=some g:=hg; cases hg) ⟨rfl,[],World.ownsRowS_nil _ _ _ _,rfl⟩
theorem Sb.freeze(h:Sb β X G D H O a w){τ:Type}{r:RT τ}{xs:List τ}{A:Option Addr}{c:Nat}{e:Nat}{O2:List TL}(hO:O=ml (.slice A xs.length c) e r xs::O2)(hpos:Nat.ble 1 r.size=true) :
  Sb β X G (DF.v (rSl r) xs (.slice A xs.length c)::D) H (tl (.slice A xs.length c) e r.size::O2) a w:=by
 subst hO
 have hmem:ml (.slice A xs.length c) e r xs∈ml (.slice A xs.length c) e r xs::O2:=.head _
 obtain⟨⟨hl,cs,hown,hr⟩,hmine⟩:=h.own _ hmem
 have hok:∀b o,Je X.ok X.w.heap.size β H (ml (.slice A xs.length c) e r xs::O2) w b o→Je X.ok X.w.heap.size β H (tl (.slice A xs.length c) e r.size::O2) w b o:=by
  rintro b o ⟨h1,h2,h3,h4⟩
  refine⟨h1,h2,h3,fun u hu hc=>?_⟩
  rcases QJ.1 hu with rfl | hu
  ·exact h4 _ (.head _) hc.1
  grind
 have hpw:=List.pairwise_cons.1 h.dOO
 refine { sz:=h.sz,df:=h.df,fr:=h.fr,pn:=h.pn,tm:=h.tm,bel:=h.bel,dat:=⟨?_,h.dat.weak hok⟩,obj:=h.obj,own:=fun u hu=>?_,dHH:=h.dHH,dHO:=fun p hp u hu=>?_,dOO:=List.pairwise_cons.2 ⟨fun u hu g hg=>hpw.1 u hu g hg,hpw.2⟩ }
 ·refine U9.2 ⟨A,xs.length,c,rfl,rfl,?_,fun h0=>?_⟩
  ·rcases hown.2 with⟨hv,h0⟩ | ⟨g,cap,cur,fz,hv,_,_,_,hle,_⟩
   ·grind
   grind
  ·rcases hown.2 with⟨hv,h1⟩ | ⟨g,cap,cur,fz,hv,_,hh,hfz,hle,hcm,hcs,htk⟩
   ·grind
   ·injection hv with e1 e2 e3
    simp only[Wk]at hle htk
    refine⟨g,0,e1,fun i x hx=>?_⟩
    have hi:=(List.getElem?_eq_some_iff.1 hx).1
    have hrep:=Bi hr hx
    refine⟨_,r.weak hrep hok,fun j u hu=>?_⟩
    have hj:j<r.size:=by have:=(List.getElem?_eq_some_iff.1 hu).1; rw[r.len hrep]at this; exact this
    have hgb:(Value.slice A xs.length c).ownBlock=some g:=by rw[e1]; rfl
    rw[QV]
    refine⟨⟨X.mine_ok (hmine g hgb) _,Vb hh,fun p hp e2=>h.dHO p hp _ hmem (by rw[e2]; exact hgb),fun u' hu' hc=>?_⟩,?_⟩
    ·rcases QJ.1 hu' with rfl | hu'
     ·have:=hc.2
      grind
     ·exact hpw.1 u' hu' g hgb (u'.cb hc)
    grind [Qv9,List.getElem?_take_of_lt]
 ·rcases QJ.1 hu with rfl | hu
  ·exact⟨⟨cs,hown⟩,hmine⟩
  ·exact⟨u.weak (h.own u (.tail _ hu)).1 hok,(h.own u (.tail _ hu)).2⟩
 ·rcases QJ.1 hu with rfl | hu
  ·exact fun hg=>(h.dHO p hp _ hmem) hg
  ·exact h.dHO p hp u (.tail _ hu)
theorem Qk4(hT:Q0 P T)(h:Sb β X G D H O a w)(O1 O2:List TL){t:TypeId}{s x:Operand}{d:Nat}{ps:String}{af:Array Edge}{ty:TypeId}{gd:Option (Nat×Bool)}
  (hg:Dh ops G ⟨some d,.call ⟨.builtin .append,⟨[s,x]⟩,⟨[t,t]⟩⟩,ty,ps,af,gd⟩=some true) (hlt:okD X d=true)
  {τ:Type} {r:RT τ} {xs ys zs:List τ} {A:Option Addr} {A2:Option Addr} {m c m2 c2:Nat} {e:TypeId} {te ee:TE} (ht:Qk T t=some te) (htd:te.d=.slice e) (he:Qk T e=some ee) (hs:ee.size=r.size)
  (hz:Nat.beq (Qu ee.z).length ee.size=true) (hsz:Nat.ble 1 ee.size=true) (hby:Nat.ble 1 ee.bytes=true)
  (hO:O=O1++ml (.slice A m c) e r xs::O2) (hs1:gv G s=some (.v (.slice A m c))) (hx1:gv G x=some (.v (.slice A2 m2 c2)))
  (hDy:Q2o r (Je X.ok X.w.heap.size β H O w) w ys A2 m2 c2) (happ:app ee.bytes xs ys=some zs)
  (hk:∀A' c' a' w',Sb β X (Qce G d (.v (.slice A' zs.length c'))) D H (O1++ml (.slice A' zs.length c') e r zs::O2) a' w'→wpList P ops Q rest a' w') :
  wpList P ops Q (⟨some d,.call ⟨.builtin .append,⟨[s,x]⟩,⟨[t,t]⟩⟩,ty,ps,af,gd⟩::rest) a w:=by
 obtain⟨hbytes,rfl⟩:=Qm1 happ
 have hmem:ml (.slice A m c) e r xs∈O:=by rw[hO]; simp
 obtain⟨⟨hl,xs0,hown,hr⟩,hmine⟩:=h.own _ hmem
 obtain⟨csy,hcy1,hyl,hmc2,hA2,hcy2,hcy3,hcy4⟩:=hDy
 have hzl:=Nat.eq_of_beq_eq_true hz
 have hsz':0<ee.size:=QK hsz
 have hby':0<ee.bytes:=QK hby
 have hnews:∀ad,A2=some ad→∀j u,csy[j]?=some u→w.cell? (ad.add j)=some u:=by
  intro ad had j u hu
  have hj:=(List.getElem?_eq_some_iff.1 hu).1
  have hm2:0<m2:=by
   grind
  grind [E8]
 simp only[Wk]at hown hl
 rw[←hs]at hown
 obtain⟨v',w1,hrun,hown',hgrow,hblk⟩:=Qjo (P:=P) (w:=w) (ty:=ty) hT ht htd he hzl hsz' hby' hown (QR _) (k:=m2) (c:=c2) (A:=A2) (news:=csy) (by rw[hs]; exact hcy1) hA2 hnews hcy2 (by rw[hl,←hyl]; exact hbytes)
 have hrun':(execOp a.eval ⟨some d,.call ⟨.builtin .append,⟨[s,x]⟩,⟨[t,t]⟩⟩,ty,ps,af,gd⟩).run P w=.ok (.value v') w1:=by
  unfold execOp
  have hm:(Array.mk [s,x]).map a.eval=⟨[.slice A m c,.slice A2 m2 c2]⟩:=by simp[h.ev hs1,h.ev hx1,My]
  simp_all [resolve,invoke,builtin]
 have hform:∃A' c',v'=.slice A' (m+m2) c':=by
  rcases hown'.2 with⟨rfl,h0⟩ | ⟨g,cap,cur,fz,rfl,_⟩
  ·grind
  grind
 obtain⟨A',c',rfl⟩:=hform
 have hlen:m+m2=(xs++ys).length:=by rw[List.length_append,hl,hyl]
 refine Jk (Xm h hg) (Yl hrun' ?_)
 have hS:Sb β X G D H (O1++ml (.slice A' (m+m2) c') e r (xs++ys)::O2) a w1:=by
  refine h.upd hO hgrow.os hgrow.tape hgrow.output hgrow.size (fun b hb hn=>hgrow.block b hb fun e=>hn e.symm) (fun b o hb=>hb) (fun g hg=>?_) fun hevo hok=>?_
  ·rcases hblk with he1 | ⟨he1,_⟩
   ·exact .inl (by have hg:(Value.slice A' (m+m2) c').ownBlock=some g:=hg; rw[he1]at hg; exact hg)
   ·have hg:(Value.slice A' (m+m2) c').ownBlock=some g:=hg
    rw[he1]at hg; grind
  ·refine⟨hlen,xs0++csy,by rw[←hs]; exact hown',Sd (Gj (Bh hr hevo) hok) (Gj (Bh ?_ hevo) hok)⟩
   grind [Qk3]
 have:=hk A' c' (a.put (some d) (.slice A' (m+m2) c')) w1
 rw[←hlen]at this
 exact this (hS.put hlt (.v _))
end
end Gd
namespace Gd
open Go Go.RowKit
section
variable {P:Program} {T:Tab} {β:Nat→Nat} {X:Cx} {G:GL} {D:List DF} {H:HL} {O:List TL} {a:Act} {w w':World}
variable {ops:Array Oper} {Q:Exit→Act→World→Prop} {rest:List Oper}
def Jsj(v:Value):List Nat:=match v.ownBlock with
 | some g=>[g]
 | none=>[]
theorem Q2s{v:Value}{g:Nat}:g∈Jsj v↔v.ownBlock=some g:=by
 unfold Jsj
 grind
def R0:Value→World→Prop:=fun v _=>v=.tuple ⟨[]⟩
def Qk5(Ts:List TL)(L:List Nat)(ok:Ok)(w:World):Prop :=
 (∀t∈Ts,t.p ok w∧(∀g,t.blks g→g∈L)∧∀g o,t.blks g→¬ ok g o)∧(Ts.Pairwise fun s t=>∀g,s.blks g→¬ t.blks g)∧∀g∈L,∃t∈Ts,t.blks g
theorem Jeb{f:FuncId}{fn:Func}{c:Code}{vs:List Value}{R:Value→World→Prop}{ok:Ok}{n:Nat}{L:List Nat}{O:List TL}(hok:∀b o,ok b o→b<w.heap.size)
  (hf:P.funcs[f]?=some fn) (hb:fn.body=some c) (hn:fn.ntmps=n) (hle:Nat.ble vs.length n=true) {D:List DF} (hD:Qkx ok w D) (hO:Qk5 O L ok w)
  (h:∀a,Sb (fun _=>0) (cxL L n ok w) (Q2k vs 0) D [] O a w→c.wp P (bodyPost P fn (Qy3 L w R)) a w):Calls P f ⟨vs⟩ w (Qy3 L w R):=by
 refine calls_of_wp hf hb (h _ ?_)
 have hle':=QK hle
 have hk:∀b o,ok b o→Je (okL L ok) w.heap.size (fun _=>0) [] O w b o:=fun b o hbo=>⟨.inl (.inl hbo),hok b o hbo,by simp,fun t ht hc=>(hO.1 t ht).2.2 b o (t.cb hc) hbo⟩
 refine { sz:=by grind,df:=rfl,fr:=by simp,pn:=by simp,tm:=?_,bel:=Uz.refl _ _ _,dat:=hD.weak hk,obj:=by simp,own:=fun t ht=>⟨t.weak (hO.1 t ht).1 hk,fun g hg=>.inr ((hO.1 t ht).2.1 g hg)⟩,dHH:=by simp,dHO:=by simp,dOO:=hO.2.1 }
 intro p hp
 obtain⟨j,v,rfl,hv⟩:=Q2l hp
 have hj:=(List.getElem?_eq_some_iff.1 hv).1
 simp_all [QV,My,XK]
theorem Sb.melt0{A:Option Addr}{c e:Nat}{τ:Type}{r:RT τ}{O2:List TL}(h:Sb β X G D H (tl (.slice A 0 c) e r.size::O2) a w):Sb β X G D H (ml (.slice A 0 c) e r []::O2) a w:=by
 have hok:∀b o,Je X.ok X.w.heap.size β H (tl (.slice A 0 c) e r.size::O2) w b o→Je X.ok X.w.heap.size β H (ml (.slice A 0 c) e r []::O2) w b o:=by
  rintro b o ⟨h1,h2,h3,h4⟩
  refine⟨h1,h2,h3,fun u hu hc=>?_⟩
  rcases QJ.1 hu with rfl | hu
  ·exact h4 _ (.head _) ⟨hc,by simp[Wk]⟩
  grind
 obtain⟨⟨cs,hown⟩,hmine⟩:=h.own _ (.head _)
 have hpw:=List.pairwise_cons.1 h.dOO
 have hcs:cs=[]:=by
  have:=hown.1
  simp_all [Wk,XL,QE]
 refine { sz:=h.sz,df:=h.df,fr:=h.fr,pn:=h.pn,tm:=h.tm,bel:=h.bel,dat:=h.dat.weak hok,obj:=h.obj,own:=fun u hu=>?_,dHH:=h.dHH,dHO:=fun p hp u hu=>?_,dOO:=List.pairwise_cons.2 ⟨fun u hu g hg=>hpw.1 u hu g hg,hpw.2⟩ }
 ·rcases QJ.1 hu with rfl | hu
  ·exact⟨⟨rfl,cs,hown,by subst hcs; rfl⟩,hmine⟩
  ·exact⟨u.weak (h.own u (.tail _ hu)).1 hok,(h.own u (.tail _ hu)).2⟩
 ·rcases QJ.1 hu with rfl | hu
  ·exact fun hg=>h.dHO p hp _ (.head _) hg
  ·exact h.dHO p hp u (.tail _ hu)
end
end Gd

/- Results of a call's own, as rows that will be written: for elements that hold no addresses. -/
namespace Gd
open Go Go.RowKit
set_option linter.unusedVariables false
set_option linter.unusedSimpArgs false
section
variable {P:Program} {T:Tab} {β:Nat→Nat} {X:Cx} {G:GL} {D:List DF} {H:HL} {O:List TL} {a:Act} {w w':World}
variable {ops:Array Oper} {Q:Exit→Act→World→Prop} {rest:List Oper}
end
end Gd

/- From a statement's arguments to typed values, and back to the statement. -/
namespace Gd
open Go Go.RowKit Go.WideShapes Go.ChangeShapes
set_option linter.unusedVariables false
set_option linter.unusedSimpArgs false
def Qk6{τ:Type}(P:Program)(r:RT τ)(t:TypeId)(good:τ→Prop):Prop :=
 P.cellsOf t=r.size∧(∀{w:World} {rc:Reach} {b:Nat} {v:Value},Value.okWide P w rc b t v→(r.agg=true→∃cs,v=.agg cs)∧(r.agg=false→∃c,v.cells=#[c]∧v=c)) ∧
 ∀{H:Type} (enc:TypeId×Value→H) (w:World) (n:Nat) (cs:List Value) (x:DataW H×List MemPlace),
  DataW.trod enc P w 0 (fun _=>true) true n t cs=some x→∃y,r.rep (lt w) w y cs∧good y
def Qiv(k:IntKind)(n:Int):Prop:=k.min≤n∧n≤k.max
def Jh3(s:Str):Prop:=s.length≤maxLen
def Jup(_:Bool):Prop:=True
def Q2t{τ:Type}(g:τ→Prop)(l:List τ):Prop:=l.length≤maxLen∧∀x∈l,g x
section
variable {P:Program}
theorem Jec{t:TypeId}{k:IntKind}(ht:P.underlying t=some (.int k))(hc:P.cellsOf t=1):Qk6 P (Tk k) t (Qiv k):=by
 refine⟨hc,fun hv=>⟨fun h=>(nomatch h),fun _=>?_⟩,fun enc w n cs x h=>?_⟩
 ·obtain⟨n,rfl⟩:=okWide_int ht hv
  exact⟨_,rfl,rfl⟩
 ·obtain⟨m,rfl,_,hw⟩:=DataW.trod_int ht h
  exact⟨m,rfl,by grind [Lit.wf,Qiv]⟩
theorem Q8i{t:TypeId}(ht:P.underlying t=some .bool)(hc:P.cellsOf t=1):Qk6 P Qv4 t Jup:=by
 refine⟨hc,fun hv=>⟨fun h=>(nomatch h),fun _=>?_⟩,fun enc w n cs x h=>?_⟩
 ·obtain⟨n,rfl⟩:=okWide_bool ht hv
  exact⟨_,rfl,rfl⟩
 ·obtain⟨m,rfl,_⟩:=DataW.trod_bool ht h
  exact⟨m,rfl,trivial⟩
theorem Jed{t:TypeId}(ht:P.underlying t=some .string)(hc:P.cellsOf t=1):Qk6 P Jsi t Jh3:=by
 refine⟨hc,fun hv=>⟨fun h=>(nomatch h),fun _=>?_⟩,fun enc w n cs x h=>?_⟩
 ·obtain⟨n,rfl⟩:=okWide_string ht hv
  exact⟨_,rfl,rfl⟩
 ·obtain⟨s,rfl,_,hs⟩:=DataW.trod_string ht h
  refine⟨s.data.toList,?_,by simp_all [Jh3]⟩
  show [Value.string s]=[Yp s.data.toList]
  simp[Yp]
theorem Qk6.fld{τ:Type}{r:RT τ}{t:TypeId}{g:τ→Prop}(ho:Qk6 P r t g){H:Type}{enc:TypeId×Value→H}{w:World}{n:Nat}{cs:List Value}{fs:Array Field}{xs:List (DataW H×List MemPlace)}
  (hlen:xs.length=fs.size) (hf:∀(i:Nat) (f:Field),fs[i]?=some f→DataW.trod enc P w 0 (fun _=>true) true n f.type ((cs.drop f.offset).take (P.cellsOf f.type))=xs[i]?)
  (i:Nat) (o:Nat) {f:Field} (hi:fs[i]?=some f) (ht:f.type=t) (hof:f.offset=o):∃y,r.rep (lt w) w y ((cs.drop o).take r.size)∧g y:=by
 have h1:=hf i f hi
 have hlt:=(Array.getElem?_eq_some_iff.1 hi).1
 rw[List.getElem?_eq_getElem (by omega),ht,hof,ho.1]at h1
 exact ho.2.2 enc w n _ _ h1
end
section
variable {H:Type} {enc:TypeId×Value→H} {P:Program} {W:World} {base:Nat} {vs:List String}
theorem Qiw(hl:laidOutB P=true){W':World}{sp:Nat→Bool}:∀{ts:List TypeId} {vs:List Value} {ds:List (DataW H)} {ps:List MemPlace},
  (ts.all fun t=>P.readableRec t&&decide (t<P.types.size))=true→DataW.TrodAll enc P W 0 (fun _=>true) true ts vs ds ps→(∀p∈ps,W.sameAt W' p)→(∀p∈ps,sp p.block=true)→DataW.TrodAll enc P W' 0 sp true ts vs ds ps
 | [],[],[],_,_,h,_,_=>h
 | t::ts,v::vs,d::ds,ps,hr,⟨p,q,h,hs,e⟩,h1,h2=>by
  subst e
  simp only[JM,QQ,decide_eq_true_eq]at hr
  exact⟨p,q,WideElems.Trod_stays hl hr.1.1 hr.1.2 h (fun x hx=>h1 x (QX.2 (.inl hx))) (fun x hx=>h2 x (QX.2 (.inl hx))),
   Qiw hl hr.2 hs (fun x hx=>h1 x (QX.2 (.inr hx))) (fun x hx=>h2 x (QX.2 (.inr hx))),rfl⟩
theorem Qot{w:World}{sp:Nat→Bool}{hd:Bool}:∀{ts:List TypeId} {vs:List Value} {ds:List (DataW H)} {ps:List MemPlace},DataW.TrodAll enc P w base sp hd ts vs ds ps→ds.length=ts.length
 | [],[],[],_,_=>rfl
 | _::_,_::_,_::_,_,⟨_,_,_,hs,_⟩=>congrArg (·+1) (Qot hs)
theorem Jh4{f:FuncId}{fn:Func}{s:ChangeSpec}{args:Array Value}{ds gs:List (DataW H)}{before:List MemPlace}{tb:TypeId}
  (hres:fn.resultTypes=#[tb]) (hb:P.underlying tb=some .bool) (hv:s.vars=[]) (hlaid:laidOutB P=true)
  (hread:(fn.params.toList.all fun t=>P.readableRec t&&decide (t<P.types.size))=true)
  (hspec:∀d:List (DataW H),d.length=fn.params.size→s.fn H d={ results:=[.lit (.bool true)],args:=d })
  (hW:DataW.Whole enc P fn.params.toList s.vars false W args.toList ds gs before)
  (hcall:Calls P f args W (Ret W (R1 Qv4 (lt W) W true))) :
  Calls P f args W fun e W'=>∃v,e=.returned v∧s.post enc P fn false true false false W args v W':=by
 have hW':=hW
 obtain⟨p,q,hA,hV,rfl,hfz,hnd⟩:=hW
 rw[hv]at hV
 obtain⟨rfl,rfl⟩:=trodVars_none hV
 have hlen:=Qot hA
 have hs:s.fn H (ds++[])={ results:=[.lit (.bool true)],args:=ds }:=by
  rw[QH]; grind
 refine hcall.mono ?_
 rintro e W' ⟨v,rfl,hr,hbel⟩
 have hbel:=hbel.nil
 obtain rfl:=Qrk.1 hr
 simp only[QH]at hW'
 have hlt:∀p'∈p,p'.block<W.heap.size:=fun p' hp=>hW'.lt p' hp
 refine⟨_,rfl,?_⟩
 refine⟨ds,[],p,[],p,[],hW',?_,?_,?_,World.keptBut_mono (fun p' hp=>⟨hp,by simpa using hp⟩) (hbel.frame (·∈p)),fun h=>by cases h⟩
 ·rw[hs,hres]
  exact trodAll_mk1 (shut_bool hb _)
 ·rw[hs]
  exact Qiw hlaid hread hA (fun x hx=>hbel.same (hlt x hx)) (fun x hx=>by grind)
 ·rw[hs,hv]
  rfl
end
end Gd

/- Plain facts on the functions that the texts are written with. -/
namespace Gd
open Go
set_option linter.unusedVariables false
set_option linter.unusedSimpArgs false
theorem Q4{n:Int}(h0 : -9223372036854775808≤n)(h1:n<9223372036854775808):IntKind.wrap .i64 n=n:=by
 grind [IntKind.wrap,Int,IntKind.bits,IntKind.signed]
theorem Jee(n:Int):IntKind.wrap .i64 n=(if(9223372036854775808:Int)≤n % 18446744073709551616 then n % 18446744073709551616 - 18446744073709551616 else n % 18446744073709551616):=by
 simp[IntKind.wrap,IntKind.bits,IntKind.signed]
theorem Jnp{α:Type}{l:List α}{i:Nat}{x:α}(h:l[i]?=some x):idx l (i:Int)=some x:=by
 simp[idx,h]
end Gd

/- Types of data, abstract values, what they mean. -/
namespace Gx
open Go Go.RowKit Gd
set_option linter.unusedVariables false
set_option linter.unusedSimpArgs false
inductive K7(α:Type) where
 | mk (x:α) (ks:List (K7 α))
def K7.x{α:Type}:K7 α→α
 | .mk x _=>x
def K7.ks{α:Type}:K7 α→List (K7 α)
 | .mk _ ks=>ks
inductive Ty where
 | int (k:IntKind) | bool | str
 | sl (e:Ty) | arr (n:Nat) (e:Ty)
 | unit | pr (f r:Ty) | st (fs:Ty) | ref | rose (fs:Ty)
@[reducible] def Ty.i:Ty:=.int .i64
@[reducible] def Ty.De:Ty→Type
 | .int _=>Int | .bool=>Bool | .str=>Str
 | .sl e=>List e.De | .arr _ e=>List e.De
 | .unit=>Unit | .pr f r=>f.De×r.De | .st fs=>fs.De | .ref=>Unit | .rose fs=>K7 fs.De
def Ty.beq:Ty→Ty→Bool
 | .int a,.int b=>Qax a b
 | .bool,.bool=>true
 | .str,.str=>true
 | .sl a,.sl b=>Ty.beq a b
 | .arr n a,.arr m b=>Nat.beq n m&&Ty.beq a b
 | .unit,.unit=>true
 | .pr a b,.pr c d=>Ty.beq a c&&Ty.beq b d
 | .st a,.st b=>Ty.beq a b
 | .ref,.ref=>true
 | .rose a,.rose b=>Ty.beq a b
 | _,_=>false
theorem Ty.beq_eq:∀{a b:Ty},Ty.beq a b=true→a=b
 | .int a,b,h=>by cases b<;>simp[Ty.beq]at h; rw[Io h]
 | .bool,b,h=>by cases b<;>simp[Ty.beq]at h; rfl
 | .str,b,h=>by cases b<;>simp[Ty.beq]at h; rfl
 | .sl a,b,h=>by cases b<;>simp[Ty.beq]at h; rw[Ty.beq_eq h]
 | .arr n a,b,h=>by cases b<;>simp[Ty.beq]at h; rw[h.1,Ty.beq_eq h.2]
 | .unit,b,h=>by cases b<;>simp[Ty.beq]at h; rfl
 | .pr a c,b,h=>by cases b<;>simp[Ty.beq]at h; rw[Ty.beq_eq h.1,Ty.beq_eq h.2]
 | .st a,b,h=>by cases b<;>simp[Ty.beq]at h; rw[Ty.beq_eq h]
 | .ref,b,h=>by cases b<;>simp[Ty.beq]at h; rfl
 | .rose a,b,h=>by cases b<;>simp[Ty.beq]at h; rw[Ty.beq_eq h]
theorem Ty.beq_refl:∀a:Ty,Ty.beq a a=true
 | .int k=>by cases k<;>rfl
 | .bool=>rfl | .str=>rfl | .unit=>rfl
 | .sl a=>Ty.beq_refl a
 | .arr n a=>by simp[Ty.beq,Ty.beq_refl a,Nat.beq_refl]
 | .pr a b=>by simp[Ty.beq,Ty.beq_refl a,Ty.beq_refl b]
 | .st a=>Ty.beq_refl a
 | .ref=>rfl
 | .rose a=>Ty.beq_refl a
def Ty.cast(a b:Ty)(x:a.De):Option b.De:=if h:Ty.beq a b=true then some (Ty.beq_eq h▸x)else none
theorem Ty.cast_ok{a b:Ty}{x:a.De}{y:b.De}(h:Ty.cast a b x=some y):∃e:a=b,y=e▸x:=by
 grind [Ty.cast,Ty.beq_eq,Option.some.inj]
def Juq:RT Unit where
 size:=0
 agg:=true
 rep:=fun _ _ _ cs=>cs=[]
 len:=by grind
 one:=fun h=>by cases h
 flat:=by grind
 evo:=fun h _=>h
 weak:=fun h _=>h
def Jpq{τ σ:Type}(r:RT τ)(s:RT σ):RT (τ×σ) where
 size:=r.size+s.size
 agg:=true
 rep:=fun ok w x cs=>∃c1 c2,cs=c1++c2∧r.rep ok w x.1 c1∧s.rep ok w x.2 c2
 len:=by rintro _ _ x cs ⟨c1,c2,rfl,h1,h2⟩; simp[r.len h1,s.len h2]
 one:=fun h=>by cases h
 flat:=by
  rintro _ _ x cs ⟨c1,c2,rfl,h1,h2⟩ c hc
  rcases QX.1 hc with hc | hc
  ·exact r.flat h1 c hc
  ·exact s.flat h2 c hc
 evo:=by rintro _ _ _ x cs ⟨c1,c2,rfl,h1,h2⟩ he; exact⟨c1,c2,rfl,r.evo h1 he,s.evo h2 he⟩
 weak:=by rintro _ _ _ x cs ⟨c1,c2,rfl,h1,h2⟩ he; exact⟨c1,c2,rfl,r.weak h1 he,s.weak h2 he⟩
def Jsk{τ:Type}(r:RT τ):RT τ where
 size:=r.size
 agg:=true
 rep:=r.rep
 len:=r.len
 one:=fun h=>by cases h
 flat:=r.flat
 evo:=r.evo
 weak:=r.weak
def Jur:RT Unit where
 size:=1
 agg:=false
 rep:=fun _ _ _ _=>False
 len:=fun h=>h.elim
 one:=fun _=>rfl
 flat:=fun h=>h.elim
 evo:=fun h _=>h
 weak:=fun h _=>h
def Jsl{τ:Type}(r:RT τ):RT (K7 τ) where
 size:=r.size+1
 agg:=true
 rep:=fun _ _ _ _=>False
 len:=fun h=>h.elim
 one:=fun h=>by cases h
 flat:=fun h=>h.elim
 evo:=fun h _=>h
 weak:=fun h _=>h
def Jsm{τ:Type}(r:RT τ)(k:RT (K7 τ)):RT (K7 τ) where
 size:=r.size+1
 agg:=true
 rep:=fun ok w x cs=>∃c1 c2,cs=c1++c2∧r.rep ok w x.x c1∧(rSl k).rep ok w x.ks c2
 len:=by rintro _ _ x cs ⟨c1,c2,rfl,h1,h2⟩; simp[r.len h1,(rSl k).len h2,rSl]
 one:=fun h=>by cases h
 flat:=by
  rintro _ _ x cs ⟨c1,c2,rfl,h1,h2⟩ c hc
  rcases QX.1 hc with hc | hc
  ·exact r.flat h1 c hc
  ·exact(rSl k).flat h2 c hc
 evo:=by rintro _ _ _ x cs ⟨c1,c2,rfl,h1,h2⟩ he; exact⟨c1,c2,rfl,r.evo h1 he,(rSl k).evo h2 he⟩
 weak:=by rintro _ _ _ x cs ⟨c1,c2,rfl,h1,h2⟩ he; exact⟨c1,c2,rfl,r.weak h1 he,(rSl k).weak h2 he⟩
def L5{τ:Type}(r:RT τ):Nat→RT (K7 τ)
 | 0=>Jsl r
 | n+1=>Jsm r (L5 r n)
theorem Ip{τ:Type}(r:RT τ):∀n,(L5 r n).size=r.size+1
 | 0=>rfl
 | _+1=>rfl
theorem Qrv{τ:Type}{r s:RT τ}{ok:Ok}{w:World}(hs:r.size=s.size)(h:∀{x cs},r.rep ok w x cs→s.rep ok w x cs){xs:List τ}{cs:List Value}:(rSl r).rep ok w xs cs→(rSl s).rep ok w xs cs:=by
 rintro⟨v,rfl,A,n,c,rfl,hl,hc,hn⟩
 refine⟨_,rfl,A,n,c,rfl,hl,hc,fun h0=>?_⟩
 grind
theorem Qou{τ:Type}(r:RT τ){ok:Ok}{w:World}:∀(n:Nat) {x:K7 τ} {cs:List Value},(L5 r n).rep ok w x cs→(L5 r (n+1)).rep ok w x cs
 | 0,_,_,h=>h.elim
 | n+1,x,cs,⟨c1,c2,e,h1,h2⟩=>⟨c1,c2,e,h1,Qrv (by rw[Ip,Ip]) (Qou r n) h2⟩
theorem Jef{τ:Type}(r:RT τ){ok:Ok}{w:World}{n m:Nat}(h:n≤m){x:K7 τ}{cs:List Value}(hx:(L5 r n).rep ok w x cs):(L5 r m).rep ok w x cs:=by
 induction h with
 | refl=>exact hx
 | step _ ih=>exact Qou r _ ih
def Qov{τ:Type}(r:RT τ):RT (K7 τ) where
 size:=r.size+1
 agg:=true
 rep:=fun ok w x cs=>∃n,(L5 r n).rep ok w x cs
 len:=by rintro _ _ x cs ⟨n,h⟩; rw[(L5 r n).len h,Ip]
 one:=fun h=>by cases h
 flat:=by rintro _ _ x cs ⟨n,h⟩; exact(L5 r n).flat h
 evo:=by rintro _ _ _ x cs ⟨n,h⟩ he; exact⟨n,(L5 r n).evo h he⟩
 weak:=by rintro _ _ _ x cs ⟨n,h⟩ he; exact⟨n,(L5 r n).weak h he⟩
theorem Jeg{τ:Type}{r:RT τ}{ok:Ok}{w:World}{x:K7 τ}{cs:List Value}(h:(Qov r).rep ok w x cs):∃c1 c2,cs=c1++c2∧r.rep ok w x.x c1∧(rSl (Qov r)).rep ok w x.ks c2:=by
 obtain⟨n,h⟩:=h
 cases n with
 | zero=>exact h.elim
 | succ n =>
  obtain⟨c1,c2,e,h1,h2⟩:=h
  exact⟨c1,c2,e,h1,Qrv (s:=Qov r) (Ip r n) (fun h=>⟨n,h⟩) h2⟩
theorem Q2u{τ:Type}{r:RT τ}{ok:Ok}{w:World}{x:τ}{ks:List (K7 τ)}{c1 c2:List Value}(h1:r.rep ok w x c1)(h2:(rSl (Qov r)).rep ok w ks c2):(Qov r).rep ok w (.mk x ks) (c1++c2):=by
 obtain⟨v,rfl,A,n,c,rfl,hl,hc,hn⟩:=h2
 rcases Nat.eq_zero_or_pos n with h0 | h0
 ·subst h0
  refine⟨1,c1,_,rfl,h1,_,rfl,A,0,c,rfl,hl,hc,fun h=>absurd h (by omega)⟩
 ·obtain⟨b,o,hA,hx⟩:=hn h0
  have key2:∀(k:Nat),∃m,∀(i:Nat) (y:K7 τ),i<k→ks[i]?=some y→∃cs,(L5 r m).rep ok w y cs∧If ok w b (o+i*(Qov r).size) cs:=by
   intro k
   induction k with
   | zero=>simp_all
   | succ k ih =>
    obtain⟨m,hm⟩:=ih
    cases hk:ks[k]? with
    | none =>
     refine⟨m,fun i y hi hy=>?_⟩
     grind
    | some z =>
     obtain⟨cs,⟨m2,h3⟩,h4⟩:=hx k z hk
     refine⟨max m m2,fun i y hi hy=>?_⟩
     grind [Nat.lt_or_ge,Jef,Nat.le_max_left,Nat.le_max_right]
  obtain⟨m,hm⟩:=key2 ks.length
  refine⟨m+1,c1,_,rfl,h1,_,rfl,A,n,c,rfl,hl,hc,fun _=>⟨b,o,hA,fun i y hy=>?_⟩⟩
  obtain⟨cs,h5,h6⟩:=hm i y (List.getElem?_eq_some_iff.1 hy).1 hy
  exact⟨cs,h5,by rw[Ip]; exact h6⟩
def rt:(t:Ty)→RT t.De
 | .int k=>Tk k
 | .bool=>Qv4
 | .str=>Jsi
 | .sl e=>rSl (rt e)
 | .arr n e=>Jhv n (rt e)
 | .unit=>Juq
 | .pr f r=>Jpq (rt f) (rt r)
 | .st fs=>Jsk (rt fs)
 | .ref=>Jur
 | .rose fs=>Qov (rt fs)
def Ty.size:Ty→Nat
 | .int _=>1 | .bool=>1 | .str=>1 | .sl _=>1
 | .arr n e=>n*e.size
 | .unit=>0 | .pr f r=>f.size+r.size | .st fs=>fs.size | .ref=>1 | .rose fs=>fs.size+1
def Ty.agg:Ty→Bool
 | .int _=>false | .bool=>false | .str=>false | .sl _=>false
 | .arr _ _=>true
 | .unit=>true | .pr _ _=>true | .st _=>true | .ref=>false | .rose _=>true
theorem Jm:∀t:Ty,(rt t).size=t.size
 | .int _=>rfl | .bool=>rfl | .str=>rfl | .sl _=>rfl
 | .arr n e=>by simp[rt,Jhv,Ty.size,Jm e]
 | .unit=>rfl
 | .pr f r=>by simp[rt,Jpq,Ty.size,Jm f,Jm r]
 | .st fs=>by simp[rt,Jsk,Ty.size,Jm fs]
 | .ref=>rfl
 | .rose fs=>by simp[rt,Qov,Ty.size,Jm fs]
theorem Dj:∀t:Ty,(rt t).agg=t.agg
 | .int _=>rfl | .bool=>rfl | .str=>rfl | .sl _=>rfl | .arr _ _=>rfl | .unit=>rfl | .pr _ _=>rfl | .st _=>rfl | .ref=>rfl | .rose _=>rfl
inductive PS where
 | f (k off:Nat) | i (j:Int) (size:Nat)
def PS.off:PS→Nat
 | .f _ o=>o | .i j s=>j.toNat*s
def Yt:List PS→Nat
 | []=>0
 | p::l=>p.off+Yt l
inductive AV where
 | d (t:Ty) (x:t.De)
 | p (id:Nat) (path:List PS)
 | e (id:Nat) (path:List PS)
 | s (id:Nat)
 | m (id:Nat)
 | b (id:Nat)
 | w (id:Nat) (j n:Int)
 | a (t:Ty) (x:t.De)
 | z | ns | np | nm | nf
 | f (fn:FuncId) (caps:AV)
 | ag (l:AV)
 | tp (l:AV)
 | nil
 | cons (x r:AV)
def AV.isAgg:AV→Bool
 | .d t _=>t.agg
 | .ag _=>true
 | _=>false
def AV.val(x:AV)(cs:List Value):Value:=bif x.isAgg then .agg cs.toArray else cs.headD undef
def AV.size:AV→Nat
 | .d t _=>t.size
 | .ag l=>l.size
 | .nil=>0
 | .cons x r=>x.size+r.size
 | _=>1
def AV.inMem:AV→Bool
 | .tp _=>false
 | .f _ _=>true
 | .ag l=>l.inMem
 | .cons x r=>x.inMem&&r.inMem
 | _=>true
def zal(v u:Value):Prop:=v=u∨(u=.slice none 0 0∧∃A,v=.slice A 0 0)
theorem zal.form{v u:Value}(h:zal v u)(hu:∃A n c,u=.slice A n c):∃A n c,v=.slice A n c:=by
 rcases h with rfl | ⟨_,A,rfl⟩
 ·exact hu
 grind
section
variable (β:Nat→Nat) (ρ:Nat→Value) (ok:Ok) (w:World)
def cr:Bool→AV→List Value→Prop
 | _,.d t x,cs=>(rt t).rep ok w x cs
 | _,.p id path,cs=>cs=[.pointer (some ⟨β id,Yt path,none⟩)]
 | _,.e id path,cs=>∃g,(ρ id).ownBlock=some g∧cs=[.pointer (some ⟨g,Yt path,none⟩)]
 | _,.s id,cs=>(∃v,cs=[v]∧zal v (ρ id))∧∃A n c,ρ id=.slice A n c
 | _,.m id,cs=>cs=[.map (some (β id))]
 | _,.b id,cs=>cs=[.int .i64 (β id)]
 | _,.w id j n,cs=>∃A c,cs=[.slice (some A) n.toNat c]∧(0<n.toNat→A=⟨β id,j.toNat,none⟩)
 | _,.a t x,cs=>∃v,cs=[v]∧Qrj (rt t) ok w x v
 | _,.z,cs=>∃A,cs=[.slice A 0 0]
 | _,.ns,cs=>cs=[.slice none 0 0]
 | _,.np,cs=>cs=[.pointer none]
 | _,.nm,cs=>cs=[.map none]
 | _,.nf,cs=>cs=[.nilFunc]
 | _,.f fn caps,cs=>∃vs,cs=[.func (.func fn) #[] vs.toArray]∧cr true caps vs
 | _,.ag l,cs=>cr false l cs
 | _,.tp l,cs=>∃vs,cs=[.tuple vs.toArray]∧cr true l vs
 | _,.nil,cs=>cs=[]
 | true,.cons x r,cs=>∃c1 vs,cs=x.val c1::vs∧cr false x c1∧cr true r vs
 | false,.cons x r,cs=>∃c1 c2,cs=c1++c2∧cr false x c1∧cr false r c2
end
section
variable {β:Nat→Nat} {ρ:Nat→Value} {ok ok':Ok} {w w':World}
theorem Oj:∀{m:Bool} {x:AV} {cs:List Value},cr β ρ ok w m x cs→Evo ok w w'→cr β ρ ok w' m x cs
 | m,.d t x,cs,h,he=>by cases m<;>exact(rt t).evo h he
 | m,.p ..,cs,h,he=>by cases m<;>exact h
 | m,.e ..,cs,h,he=>by cases m<;>exact h
 | m,.s _,cs,h,he=>by cases m<;>exact h
 | m,.m _,cs,h,he=>by cases m<;>exact h
 | m,.b _,cs,h,he=>by cases m<;>exact h
 | m,.w ..,cs,h,he=>by cases m<;>exact h
 | m,.a t x,cs,h,he=>by cases m<;>exact let⟨v,h1,h2⟩:=h; ⟨v,h1,h2.evo he⟩
 | m,.z,cs,h,he=>by cases m<;>exact h
 | m,.ns,cs,h,he=>by cases m<;>exact h
 | m,.np,cs,h,he=>by cases m<;>exact h
 | m,.nm,cs,h,he=>by cases m<;>exact h
 | m,.nf,cs,h,he=>by cases m<;>exact h
 | m,.f fn caps,cs,h,he=>by cases m<;>exact let⟨vs,h1,h2⟩:=h; ⟨vs,h1,Oj h2 he⟩
 | m,.ag l,cs,h,he=>by cases m<;>exact Oj (m:=false) (x:=l) h he
 | m,.tp l,cs,h,he=>by cases m<;>exact let⟨vs,h1,h2⟩:=h; ⟨vs,h1,Oj h2 he⟩
 | m,.nil,cs,h,he=>by cases m<;>exact h
 | true,.cons x r,cs,h,he=>let⟨c1,vs,h1,h2,h3⟩:=h; ⟨c1,vs,h1,Oj h2 he,Oj h3 he⟩
 | false,.cons x r,cs,h,he=>let⟨c1,vs,h1,h2,h3⟩:=h; ⟨c1,vs,h1,Oj h2 he,Oj h3 he⟩
theorem Gs:∀{m:Bool} {x:AV} {cs:List Value},cr β ρ ok w m x cs→(∀b o,ok b o→ok' b o)→cr β ρ ok' w m x cs
 | m,.d t x,cs,h,he=>by cases m<;>exact(rt t).weak h he
 | m,.p ..,cs,h,he=>by cases m<;>exact h
 | m,.e ..,cs,h,he=>by cases m<;>exact h
 | m,.s _,cs,h,he=>by cases m<;>exact h
 | m,.m _,cs,h,he=>by cases m<;>exact h
 | m,.b _,cs,h,he=>by cases m<;>exact h
 | m,.w ..,cs,h,he=>by cases m<;>exact h
 | m,.a t x,cs,h,he=>by cases m<;>exact let⟨v,h1,h2⟩:=h; ⟨v,h1,h2.weak he⟩
 | m,.z,cs,h,he=>by cases m<;>exact h
 | m,.ns,cs,h,he=>by cases m<;>exact h
 | m,.np,cs,h,he=>by cases m<;>exact h
 | m,.nm,cs,h,he=>by cases m<;>exact h
 | m,.nf,cs,h,he=>by cases m<;>exact h
 | m,.f fn caps,cs,h,he=>by cases m<;>exact let⟨vs,h1,h2⟩:=h; ⟨vs,h1,Gs h2 he⟩
 | m,.ag l,cs,h,he=>by cases m<;>exact Gs (m:=false) (x:=l) h he
 | m,.tp l,cs,h,he=>by cases m<;>exact let⟨vs,h1,h2⟩:=h; ⟨vs,h1,Gs h2 he⟩
 | m,.nil,cs,h,he=>by cases m<;>exact h
 | true,.cons x r,cs,h,he=>let⟨c1,vs,h1,h2,h3⟩:=h; ⟨c1,vs,h1,Gs h2 he,Gs h3 he⟩
 | false,.cons x r,cs,h,he=>let⟨c1,vs,h1,h2,h3⟩:=h; ⟨c1,vs,h1,Gs h2 he,Gs h3 he⟩
theorem Zr:∀{x:AV} {cs:List Value},cr β ρ ok w false x cs→cs.length=x.size
 | .d t x,cs,h=>by rw[AV.size,←Jm]; exact(rt t).len h
 | .p ..,cs,h=>by subst h; rfl
 | .e ..,cs,⟨_,_,h⟩=>by subst h; rfl
 | .s _,cs,⟨⟨_,h,_⟩,_⟩=>by subst h; rfl
 | .m _,cs,h=>by subst h; rfl
 | .b _,cs,h=>by subst h; rfl
 | .w ..,cs,⟨_,_,h,_⟩=>by subst h; rfl
 | .a t x,cs,⟨_,h,_⟩=>by subst h; rfl
 | .z,cs,⟨_,h⟩=>by subst h; rfl
 | .ns,cs,h=>by subst h; rfl
 | .np,cs,h=>by subst h; rfl
 | .nm,cs,h=>by subst h; rfl
 | .nf,cs,h=>by subst h; rfl
 | .f ..,cs,⟨_,h,_⟩=>by subst h; rfl
 | .ag l,cs,h=>by rw[AV.size]; exact Zr (x:=l) h
 | .tp l,cs,⟨_,h,_⟩=>by subst h; rfl
 | .nil,cs,h=>by subst h; rfl
 | .cons x r,cs,⟨c1,c2,h,h1,h2⟩=>by subst h; rw[List.length_append,Zr h1,Zr h2]; rfl
theorem Qci:∀{x:AV} {cs:List Value},cr β ρ ok w false x cs→x.inMem=true→∀c∈cs,c.oneCell'=true
 | .d t x,cs,h,_=>(rt t).flat h
 | .p ..,cs,h,_=>by subst h; simp; rfl
 | .e ..,cs,⟨_,_,h⟩,_=>by subst h; simp; rfl
 | .s id,cs,⟨⟨v,h,hz⟩,hs⟩,_=>by
  subst h; obtain⟨A,n,c,rfl⟩:=hz.form hs
  intro c hc; simp at hc; subst hc; rfl
 | .m _,cs,h,_=>by subst h; simp; rfl
 | .b _,cs,h,_=>by subst h; simp; rfl
 | .w ..,cs,⟨_,_,h,_⟩,_=>by subst h; simp; rfl
 | .a t x,cs,⟨v,h,hv⟩,_=>by obtain⟨b,o,c,rfl,_⟩:=hv; subst h; simp; rfl
 | .z,cs,⟨_,h⟩,_=>by subst h; simp; rfl
 | .ns,cs,h,_=>by subst h; simp; rfl
 | .np,cs,h,_=>by subst h; simp; rfl
 | .nm,cs,h,_=>by subst h; simp; rfl
 | .nf,cs,h,_=>by subst h; simp; rfl
 | .f ..,cs,⟨_,h,_⟩,_=>by subst h; simp; rfl
 | .ag l,cs,h,hm=>Qci (x:=l) h hm
 | .tp l,cs,_,hm=>by cases hm
 | .nil,cs,h,_=>by subst h; simp
 | .cons x r,cs,⟨c1,c2,h,h1,h2⟩,hm=>by
  simp only[AV.inMem,QQ]at hm
  subst h
  intro c hc
  rcases QX.1 hc with hc | hc
  ·exact Qci h1 hm.1 c hc
  ·exact Qci h2 hm.2 c hc
theorem Jsn{x:AV}{cs:List Value}(h:cr β ρ ok w false x cs)(ha:x.isAgg=false)(hn:x.size=1):∃c,cs=[c]:=by
 have:=Zr h
 rw[hn]at this
 match cs,this with
 | [c],_=>exact⟨c,rfl⟩
theorem Jh5:∀{t:Ty},t.agg=false→t.size=1
 | .int _,_=>rfl | .bool,_=>rfl | .str,_=>rfl | .sl _,_=>rfl | .ref,_=>rfl
def AV.isVal:AV→Bool
 | .nil=>false
 | .cons _ _=>false
 | .d t _=>true
 | _=>true
theorem Se{x:AV}{cs:List Value}(h:cr β ρ ok w false x cs)(hv:x.isVal=true)(hm:x.inMem=true):Qu (x.val cs)=cs:=by
 unfold AV.val
 cases ha:x.isAgg with
 | true=>simp[Qu]
 | false =>
  have hsz:x.size=1:=by
   cases x<;>first | rfl | (simp[AV.isAgg]at ha; done) | (simp[AV.isVal]at hv; done) | skip
   ·exact Jh5 ha
  obtain⟨c,rfl⟩:=Jsn h ha hsz
  have:=Qci h hm c (.head _)
  simp only[cond_false,List.headD_cons]
  cases c<;>first | rfl | grind [Value.oneCell']
theorem Q2v{t:Ty}{x:t.De}{cs:List Value}:(AV.d t x).val cs=(rt t).val cs:=by
 grind [AV.val,AV.isAgg,RT.val,Dj]
theorem Jeh{t:Ty}{x:t.De}{cs:List Value}(h:cr β ρ ok w false (.d t x) cs):isV (rt t) ok w x ((AV.d t x).val cs):=⟨cs,h,Q2v⟩
theorem Qhj{t:Ty}{x:t.De}{v:Value}(h:isV (rt t) ok w x v):∃cs,cr β ρ ok w false (.d t x) cs∧v=(AV.d t x).val cs:=by
 obtain⟨cs,hr,rfl⟩:=h
 exact⟨cs,hr,Q2v.symm⟩
end
end Gx

/- Abstract states. -/
namespace Gx
open Go Go.RowKit Gd
set_option linter.unusedVariables false
set_option linter.unusedSimpArgs false
inductive CK where
 | sl (e:TypeId) (u:Ty)
 | mp (k v:Ty)
@[reducible] def CK.ty:CK→Ty
 | .sl _ u=>.sl u
 | .mp k v=>.sl (.pr k v)
inductive Ob where
 | var (tid:TypeId) (c:AV)
 | row (e:TypeId) (t:Ty) (xs:List t.De)
 | tail (e:TypeId) (t:Ty) (xs:List t.De)
 | map (k v:Ty) (xs:List (k.De×v.De))
 | mapC (k:Ty) (c:CK) (xs:List (k.De×c.ty.De)) (hole:Option (k.De×Nat))
 | mapE (k v:Ty) (xs:List (k.De×v.De)) (key:k.De) (j:Nat)
def Qfc(β:Nat→Nat)(ρ:Nat→Value)(g:Nat)(tid:TypeId)(c:AV):TL where
 blks:=fun b=>b=g
 cov:=fun b _=>b=g
 cb:=fun h=>h
 p:=fun ok w=>∃cs,w.heap[g]?=some (.cells cs.toArray tid (0,0))∧cr β ρ ok w false c cs
 keep:=fun⟨cs,h1,h2⟩ hb he=>⟨cs,by rw[hb _ rfl]; exact h1,Oj h2 he⟩
 weak:=fun⟨cs,h1,h2⟩ hk=>⟨cs,h1,Gs h2 hk⟩
 lt:=fun⟨_,h,_⟩ b hb=>by grind
def Qfd{τ:Type}(v:Value)(e:Nat)(r:RT τ)(xs:List τ):TL where
 blks:=fun g=>v.ownBlock=some g
 cov:=fun b o=>v.ownBlock=some b∧Wk v*r.size≤o
 cb:=fun h=>h.1
 p:=fun ok w=>isV (rSl r) ok w xs v∧∃ys,w.ownsRowS 0 e r.size v (Wk v) ys
 keep:=fun⟨h1,ys,h⟩ hb he=>⟨h1.evo he,ys,Qcf h hb⟩
 weak:=fun⟨h1,h⟩ hk=>⟨h1.weak hk,h⟩
 lt:=fun⟨_,_,h⟩ g hg=>(h.lt g hg).2
def W8{κ ν:Type}(r:RT κ)(s:RT ν)(ok:Ok)(w:World):List (κ×ν)→List MapEntry→Prop
 | [],es=>es=[]
 | x::xs,es=>∃e es',es=e::es'∧isV r ok w x.1 e.key∧isV s ok w x.2 e.val∧W8 r s ok w xs es'
theorem Hf{κ ν:Type}{r:RT κ}{s:RT ν}{ok:Ok}{w w':World}:∀{xs:List (κ×ν)} {es:List MapEntry},W8 r s ok w xs es→Evo ok w w'→W8 r s ok w' xs es
 | [],_,h,_=>h
 | x::xs,es,⟨e,es',h,h1,h2,h3⟩,he=>⟨e,es',h,h1.evo he,h2.evo he,Hf h3 he⟩
theorem Ub{κ ν:Type}{r:RT κ}{s:RT ν}{ok ok':Ok}{w:World}:∀{xs:List (κ×ν)} {es:List MapEntry},W8 r s ok w xs es→(∀b o,ok b o→ok' b o)→W8 r s ok' w xs es
 | [],_,h,_=>h
 | x::xs,es,⟨e,es',h,h1,h2,h3⟩,he=>⟨e,es',h,h1.weak he,h2.weak he,Ub h3 he⟩
def Co{κ ν:Type}(g:Nat)(r:RT κ)(s:RT ν)(xs:List (κ×ν)):TL where
 blks:=fun b=>b=g
 cov:=fun b _=>b=g
 cb:=fun h=>h
 p:=fun ok w=>∃es clock ys,w.heap[g]?=some (.map es clock)∧ys.Perm xs∧W8 r s ok w ys es.toList∧(xs.map Prod.fst).Nodup∧(es.toList.map MapEntry.born).Nodup∧∀e∈es.toList,e.born<clock
 keep:=fun⟨es,c,ys,h1,h0,h2,h3⟩ hb he=>⟨es,c,ys,by rw[hb _ rfl]; exact h1,h0,Hf h2 he,h3⟩
 weak:=fun⟨es,c,ys,h1,h0,h2,h3⟩ hk=>⟨es,c,ys,h1,h0,Ub h2 hk,h3⟩
 lt:=fun⟨_,_,_,h,_⟩ b hb=>by grind
def Xi:Value→Option Nat
 | .map o=>o
 | v=>v.ownBlock
theorem Qfe{w:World}{base:Nat}{e:TypeId}{size n:Nat}{v:Value}{xs:List Value}(h:w.ownsRowS base e size v n xs){b:Nat}:v.ownBlock=some b↔Xi v=some b:=by
 rcases h.2 with⟨rfl,_⟩ | ⟨g,cap,cur,fz,rfl,_⟩<;>exact Iff.rfl
def Qes:(c:CK)→Value→c.ty.De→TL
  | .sl e u,v,x=>ml v e (rt u) x
  | .mp k v0,v,x=>{ Co ((Xi v).getD 0) (rt k) (rt v0) x with
      blks:=fun b=>Xi v=some b
      cov:=fun b _=>Xi v=some b
      cb:=fun h=>h
      p:=fun ok w=>∃g,v=.map (some g)∧(Co g (rt k) (rt v0) x).p ok w
      keep:=fun⟨g,h1,h2⟩ hb he=>⟨g,h1,(Co g (rt k) (rt v0) x).keep h2 (fun b hg=>hb b (by subst hg; rw[h1]; rfl)) he⟩
      weak:=fun⟨g,h1,h2⟩ hk=>⟨g,h1,(Co g (rt k) (rt v0) x).weak h2 hk⟩
      lt:=fun⟨g,h1,h2⟩ b hb=>(Co g (rt k) (rt v0) x).lt h2 b (by rw[h1]at hb; injection hb with hb; exact hb.symm) }
theorem Q2w{c:CK}{v:Value}{x:c.ty.De}{ok:Ok}{w:World}(h:(Qes c v x).p ok w){b:Nat}:(Qes c v x).blks b↔Xi v=some b:=by
 cases c with
 | sl e u =>
  obtain⟨_,cs,h2,_⟩:=h
  exact Qfe h2
 | mp k v0=>exact Iff.rfl
def Jnq:RT Value where
 size:=1
 agg:=false
 rep:=fun _ _ x cs=>cs=[x]∧x.oneCell'=true
 len:=fun h=>by rw[h.1]; rfl
 one:=fun _=>rfl
 flat:=fun h c hc=>by rw[h.1]at hc; grind
 evo:=fun h _=>h
 weak:=fun h _=>h
def Dk{κ:Type}(c:CK)(hole:Option κ)(hv:Value)(ok:Ok)(w:World):List (κ×c.ty.De)→List (κ×Value)→List Value→Prop
 | [],[],[]=>True
 | x::xs,y::ys,v::vs=>x.1=y.1∧((hole=some x.1∧v=undef∧zal y.2 hv)∨(hole≠some x.1∧zal y.2 v∧(Qes c v x.2).p ok w))∧Dk c hole hv ok w xs ys vs
 | _,_,_=>False
section
variable {κ:Type} {c:CK} {hole:Option κ} {hv:Value} {ok ok':Ok} {w w':World}
theorem Qrw:∀{xs:List (κ×c.ty.De)} {ys:List (κ×Value)} {vs:List Value},Dk c hole hv ok w xs ys vs→(∀v∈vs,∀b,Xi v=some b→w'.heap[b]?=w.heap[b]?)→Evo ok w w'→Dk c hole hv ok w' xs ys vs
 | [],[],[],h,_,_=>h
 | x::xs,y::ys,v::vs,⟨h1,h2,h3⟩,hb,he=>⟨h1,h2.imp id fun⟨q1,q2,q3⟩=>⟨q1,q2,(Qes c v x.2).keep q3 (fun b hg=>hb v (.head _) b ((Q2w q3).1 hg)) he⟩,Qrw h3 (fun v hv=>hb v (.tail _ hv)) he⟩
 | [],[],_::_,h,_,_=>h.elim
 | [],_::_,_,h,_,_=>h.elim
 | _::_,[],_,h,_,_=>h.elim
 | _::_,_::_,[],h,_,_=>h.elim
theorem Qa0:∀{xs:List (κ×c.ty.De)} {ys:List (κ×Value)} {vs:List Value},Dk c hole hv ok w xs ys vs→(∀b o,ok b o→ok' b o)→Dk c hole hv ok' w xs ys vs
 | [],[],[],h,_=>h
 | x::xs,y::ys,v::vs,⟨h1,h2,h3⟩,hk=>⟨h1,h2.imp id fun⟨q1,q2,q3⟩=>⟨q1,q2,(Qes c v x.2).weak q3 hk⟩,Qa0 h3 hk⟩
 | [],[],_::_,h,_=>h.elim
 | [],_::_,_,h,_=>h.elim
 | _::_,[],_,h,_=>h.elim
 | _::_,_::_,[],h,_=>h.elim
theorem Ja5:∀{xs:List (κ×c.ty.De)} {ys:List (κ×Value)} {vs:List Value},Dk c hole hv ok w xs ys vs→∀v∈vs,∀b,Xi v=some b→b<w.heap.size
 | [],[],[],h=>by simp
 | x::xs,y::ys,v::vs,⟨h1,h2,h3⟩=>by
  intro y hy b hb
  rcases QJ.1 hy with rfl | hy
  ·rcases h2 with⟨_,rfl,_⟩ | ⟨_,_,q3⟩
   ·cases hb
   ·exact(Qes c y x.2).lt q3 b ((Q2w q3).2 hb)
  ·exact Ja5 h3 y hy b hb
 | [],[],_::_,h=>h.elim
 | [],_::_,_,h=>h.elim
 | _::_,[],_,h=>h.elim
 | _::_,_::_,[],h=>h.elim
end
def Qcj:Value→List Value
 | .tuple vs=>vs.toList
 | _=>[]
abbrev Qk7(vs:List Value):Prop:=vs.Pairwise fun a b=>∀g,Xi a=some g→Xi b≠some g
def Jh6{κ:Type}(g:Nat)(r:RT κ)(c:CK)(vs:List Value)(xs:List (κ×c.ty.De))(hole:Option κ)(hv:Value)(ok:Ok)(w:World):Prop :=
 ∃ys,(∃es clock,w.heap[g]?=some (.map es clock)∧W8 r Jnq ok w ys es.toList∧(es.toList.map MapEntry.born).Nodup∧∀e∈es.toList,e.born<clock)∧Dk c hole hv ok w xs ys vs∧(xs.map Prod.fst).Nodup∧Qk7 vs∧(∀v∈vs,Xi v≠some g)∧∀k,hole=some k→k∉xs.map Prod.fst→hv=.slice none 0 0
def Jh7(g:Nat)(vs:List Value){κ:Type}(r:RT κ)(c:CK)(xs:List (κ×c.ty.De))(hole:Option κ)(hv:Value):TL where
 blks:=fun b=>b=g∨∃v∈vs,Xi v=some b
 cov:=fun b _=>b=g∨∃v∈vs,Xi v=some b
 cb:=fun h=>h
 p:=fun ok w=>Jh6 g r c vs xs hole hv ok w
 keep:=fun⟨ys,⟨es,cl,h1,h2,h3⟩,h4,h5⟩ hb he=>⟨ys,⟨es,cl,by rw[hb _ (.inl rfl)]; exact h1,Hf h2 he,h3⟩,Qrw h4 (fun v hv b hvb=>hb b (.inr ⟨v,hv,hvb⟩)) he,h5⟩
 weak:=fun⟨ys,⟨es,cl,h1,h2,h3⟩,h4,h5⟩ hk=>⟨ys,⟨es,cl,h1,Ub h2 hk,h3⟩,Qa0 h4 hk,h5⟩
 lt:=fun⟨_,⟨_,_,h,_⟩,h2,_⟩ b hb=>by
  rcases hb with rfl | ⟨v,hv,hb⟩
  ·exact Vb h
  ·exact Ja5 h2 v hv b hb
def Ol{k:Ty}(β:Nat→Nat)(ρ:Nat→Value)(c:CK)(hole:Option (k.De×Nat)):Value:=match hole with
 | some q=>(match c with
  | .sl _ _=>ρ q.2
  | .mp _ _=>.map (some (β q.2)))
 | none=>undef
def Q2x{k:Ty}(hole:Option (k.De×Nat)):Option k.De:=match hole with
 | some q=>some q.1
 | none=>none
def Jh8{κ ν:Type}(g:Nat)(r:RT κ)(s:RT ν)(xs:List (κ×ν))(key:κ)(b:Nat):TL where
 blks:=fun b=>b=g
 cov:=fun b _=>b=g
 cb:=fun h=>h
 p:=fun ok w=>∃es clock ys,w.heap[g]?=some (.map es clock)∧ys.Perm xs∧W8 r s ok w ys es.toList∧(xs.map Prod.fst).Nodup∧(es.toList.map MapEntry.born).Nodup∧(∀e∈es.toList,e.born<clock)∧∃e∈es.toList,isV r ok w key e.key∧e.born=b
 keep:=fun⟨es,c,ys,h1,h0,h2,h3,h4,h5,e,h6,h7,h8⟩ hb he=>⟨es,c,ys,by rw[hb _ rfl]; exact h1,h0,Hf h2 he,h3,h4,h5,e,h6,h7.evo he,h8⟩
 weak:=fun⟨es,c,ys,h1,h0,h2,h3,h4,h5,e,h6,h7,h8⟩ hk=>⟨es,c,ys,h1,h0,Ub h2 hk,h3,h4,h5,e,h6,h7.weak hk,h8⟩
 lt:=fun⟨_,_,_,h,_⟩ b hb=>by grind
def Qv(β:Nat→Nat)(ρ:Nat→Value)(id:Nat):Ob→TL
 | .var tid c=>Qfc β ρ (β id) tid c
 | .row e t xs=>ml (ρ id) e (rt t) xs
 | .tail e t xs=>Qfd (ρ id) e (rt t) xs
 | .map k v xs=>Co (β id) (rt k) (rt v) xs
 | .mapC k c xs hole=>Jh7 (β id) (Qcj (ρ id)) (rt k) c xs (Q2x hole) (Ol β ρ c hole)
 | .mapE k v xs key j=>Jh8 (β id) (rt k) (rt v) xs key (β j)
abbrev Vz:=List (Nat×Bool)
structure En where
 t:Nat
 cs:Vz
 av:AV
structure St where
 env:List En
 mem:List (Nat×Ob)
def J3(a:Act)(cs:Vz):Prop:=∀c∈cs,a.tmps[c.1]?=some (.bool c.2)
def rd(a:Act)(t:Nat):Option Value:=bif Nat.blt t 100000 then a.tmps[t]? else some (.pointer (some ⟨t - 100000,0,none⟩))
theorem Om{a:Act}{t:Nat}(h:Nat.blt t 100000=true):rd a t=a.tmps[t]?:=by grind [rd]
def enD(β:Nat→Nat)(ρ:Nat→Value)(a:Act)(e:En):DF where
 p:=fun ok w=>(J3 a e.cs→∃cs,rd a e.t=some (e.av.val cs)∧cr β ρ ok w false e.av cs)∧(J3 a e.cs∨rd a e.t=some undef)
 evo:=fun h he=>⟨fun hc=>let⟨cs,h1,h2⟩:=h.1 hc; ⟨cs,h1,Oj h2 he⟩,h.2⟩
 weak:=fun h hk=>⟨fun hc=>let⟨cs,h1,h2⟩:=h.1 hc; ⟨cs,h1,Gs h2 hk⟩,h.2⟩
abbrev Qj(β:Nat→Nat)(ρ:Nat→Value)(mem:List (Nat×Ob)):List TL:=mem.map fun q=>Qv β ρ q.1 q.2
abbrev okR(X:Cx)(β:Nat→Nat)(ρ:Nat→Value)(mem:List (Nat×Ob))(w:World):Ok:=Je X.ok X.w.heap.size (fun _=>0) [] (Qj β ρ mem) w
def Rel(X:Cx)(β:Nat→Nat)(ρ:Nat→Value)(S:St)(a:Act)(w:World):Prop :=
 Sb (fun _=>0) X [] (S.env.map (enD β ρ a)) [] (Qj β ρ S.mem) a w
def Qm4:List En→Nat→Option En
 | [],_=>none
 | e::l,t=>bif Nat.beq e.t t then some e else Qm4 l t
theorem Qm5{l:List En}{t:Nat}{e:En}(h:Qm4 l t=some e):e∈l∧e.t=t:=by
 induction l with
 | nil=>simp[Qm4]at h
 | cons x l ih =>
  simp only[Qm4]at h
  cases hb:Nat.beq x.t t with
  | true=>rw[hb]at h; simp_all
  | false=>rw[hb]at h; grind
def Xn(l:List En)(t:Nat):Option En:=bif Nat.blt t 100000 then Qm4 l t else none
theorem Qff{l:List En}{t:Nat}{e:En}(h:Xn l t=some e):Nat.blt t 100000=true:=by
 grind [Xn,Nat.blt]
theorem Zt{l:List En}{t:Nat}{e:En}(h:Xn l t=some e):e∈l∧e.t=t:=by
 have hb:=Qff h
 grind [Xn,Qm5]
theorem Q2y{l:List En}{t:Nat}{e:En}(h:Xn l t=some e)(a:Act):rd a e.t=a.tmps[e.t]?:=Om (by rw[(Zt h).2]; exact Qff h)
def Jus(l:List En)(g:Nat):Option En:=Qm4 l (100000+g)
theorem Q8j(a:Act)(g:Nat):rd a (100000+g)=some (.pointer (some ⟨g,0,none⟩)):=by
 unfold rd
 have:Nat.blt (100000+g) 100000=false:=by
  cases hb:Nat.blt (100000+g) 100000 with
  | false=>rfl
  | true=>exact absurd (QK hb) (by omega)
 rw[this]
 simp
def Jnr:Vz→Nat×Bool→Bool
 | [],_=>false
 | (t,b)::l,c=>(Nat.beq t c.1&&(b==c.2))||Jnr l c
theorem Ja6:∀{l:Vz} {c:Nat×Bool},Jnr l c=true→c∈l
 | (t,b)::l,(u,v),h=>by
  simp only[Jnr,JL,QQ]at h
  rcases h with⟨h1,h2⟩ | h
  ·have:=Nat.eq_of_beq_eq_true h1
   grind
  ·exact .tail _ (Ja6 h)
def Qy7:Vz→Vz→Bool
 | [],_=>true
 | c::l,cur=>Jnr cur c&&Qy7 l cur
theorem Qhk:∀{l cur:Vz} {a:Act},Qy7 l cur=true→J3 a cur→J3 a l
 | [],cur,a,_,_=>by intro c hc; cases hc
 | c::l,cur,a,h,hc=>by
  simp only[Qy7,QQ]at h
  intro x hx
  rcases QJ.1 hx with rfl | hx
  ·exact hc _ (Ja6 h.1)
  ·exact Qhk h.2 hc x hx
def Qm6:Value→Option AV
 | .int k n=>some (.d (.int k) n)
 | .bool b=>some (.d .bool b)
 | .string ⟨⟨l⟩⟩=>some (.d .str l)
 | .slice none 0 0=>some .ns
 | .pointer none=>some .np
 | .map none=>some .nm
 | .nilFunc=>some .nf
 | _=>none
def Qrx:List Value→Option AV
 | []=>some .nil
 | v::l=>match Qm6 v,Qrx l with
  | some x,some r=>some (.cons x r)
  | _,_=>none
def Qy8:Value→Option AV
 | .agg ⟨l⟩=>match Qrx l with
  | some r=>some (.ag r)
  | none=>none
 | v=>Qm6 v
section
variable {β:Nat→Nat} {ρ:Nat→Value} {ok:Ok} {w:World}
theorem Qm7{v:Value}{x:AV}(h:Qm6 v=some x):cr β ρ ok w false x [v]∧x.val [v]=v:=by
 unfold Qm6 at h
 split at h<;>first | (simp at h; done) | skip
 all_goals
  simp only[Option.some.injEq]at h
  subst h
  exact⟨rfl,rfl⟩
theorem Qwa:∀{l:List Value} {x:AV},Qrx l=some x→cr β ρ ok w false x l
 | [],x,h=>by simp[Qrx]at h; subst h; rfl
 | v::l,x,h=>by
  simp only[Qrx]at h
  split at h
  ·rename_i y r h1 h2
   simp at h; subst h
   exact⟨[v],l,rfl,(Qm7 h1).1,Qwa h2⟩
  ·cases h
theorem Qry{v:Value}{x:AV}(h:Qy8 v=some x):∃cs,v=x.val cs∧cr β ρ ok w false x cs:=by
 unfold Qy8 at h
 split at h
 ·rename_i l
  split at h
  ·rename_i r hr
   simp at h; subst h
   exact⟨l,rfl,Qwa (x:=r) hr⟩
  ·cases h
 ·obtain⟨h1,h2⟩:=Qm7 (β:=β) (ρ:=ρ) (ok:=ok) (w:=w) h
  grind
end
def ev(S:St)(cur:Vz):Operand→Option AV
 | .tmp t=>match Xn S.env t with
  | some e=>bif Qy7 e.cs cur then some e.av else none
  | none=>none
 | .const v=>Qy8 v
 | .func f=>some (.f f .nil)
 | .global g=>match Jus S.env g with
  | some e=>bif Qy7 e.cs cur then some e.av else none
  | none=>none
def Qa1(t:Nat):Vz→Bool
 | []=>false
 | c::l=>Nat.beq c.1 t||Qa1 t l
theorem Qfg{t:Nat}:∀{l:Vz},Qa1 t l=false→∀c∈l,c.1≠t
 | [],_,c,hc=>by cases hc
 | d::l,h,c,hc=>by
  simp only[Qa1,JR]at h
  rcases QJ.1 hc with rfl | hc
  ·grind [Nat.beq_refl]
  ·exact Qfg h.2 c hc
def Jx:List En→Nat→List En
 | [],_=>[]
 | e::l,t=>bif Nat.beq e.t t||Qa1 t e.cs then Jx l t else e::Jx l t
theorem Iq{l:List En}{t:Nat}{e:En}(h:e∈Jx l t):e∈l∧e.t≠t∧∀c∈e.cs,c.1≠t:=by
 induction l with
 | nil=>simp[Jx]at h
 | cons x l ih =>
  simp only[Jx]at h
  cases hb:(Nat.beq x.t t||Qa1 t x.cs)with
  | true=>rw[hb]at h; grind
  | false =>
   rw[hb]at h
   simp only[cond_false,QJ]at h
   rcases h with rfl | h
   ·simp only[JR]at hb
    exact⟨.head _,fun e=>by rw[e]at hb; simp_all,Qfg hb.2⟩
   grind
def St.put(S:St)(d:Nat)(cs:Vz)(x:AV):St:=⟨⟨d,cs,x⟩::Jx S.env d,S.mem⟩
def St.del(S:St)(d:Nat):St:=⟨Jx S.env d,S.mem⟩
section
variable {X:Cx} {β:Nat→Nat} {ρ:Nat→Value} {S:St} {a a':Act} {w w':World}
theorem Jh{ok:Ok}{w:World}:∀{D:List DF},Qkx ok w D↔∀d∈D,d.p ok w
 | []=>by simp[Qkx]
 | d::D=>by simp[Qkx,Jh (D:=D)]
theorem Rel.en(h:Rel X β ρ S a w){e:En}(he:e∈S.env):(enD β ρ a e).p (okR X β ρ S.mem w) w:=Jh.1 h.dat _ (QZ.2 ⟨e,he,rfl⟩)
theorem Rel.get(h:Rel X β ρ S a w){t:Nat}{e:En}(he:Xn S.env t=some e)(hc:J3 a e.cs) :
  ∃cs,a.tmps[t]?=some (e.av.val cs)∧cr β ρ (okR X β ρ S.mem w) w false e.av cs:=by
 have hr:=Q2y he a
 obtain⟨hm,rfl⟩:=Zt he
 rw[←hr]
 exact(h.en hm).1 hc
theorem Rel.ev(h:Rel X β ρ S a w){cur:Vz}(hc:J3 a cur){x:Operand}{v:AV}(hx:ev S cur x=some v) :
  ∃cs,a.eval x=v.val cs∧cr β ρ (okR X β ρ S.mem w) w false v cs:=by
 cases x with
 | tmp t =>
  simp only[Gx.ev]at hx
  split at hx
  ·rename_i e he
   cases hb:Qy7 e.cs cur with
   | false=>rw[hb]at hx; cases hx
   | true =>
    rw[hb]at hx
    simp at hx; subst hx
    obtain⟨cs,h1,h2⟩:=h.get he (Qhk hb hc)
    exact⟨cs,by simp[Act.eval,h1],h2⟩
  ·cases hx
 | const v =>
  obtain⟨cs,h1,h2⟩:=Qry (β:=β) (ρ:=ρ) (ok:=okR X β ρ S.mem w) (w:=w) hx
  exact⟨cs,h1,h2⟩
 | func f =>
  simp[Gx.ev]at hx; subst hx
  exact⟨[.func (.func f) #[] #[]],rfl,[],rfl,rfl⟩
 | global g =>
  simp only[Gx.ev]at hx
  split at hx
  ·rename_i e he
   cases hb:Qy7 e.cs cur with
   | false=>rw[hb]at hx; cases hx
   | true =>
    rw[hb]at hx
    simp at hx; subst hx
    obtain⟨hm,ht⟩:=Qm5 he
    obtain⟨cs,h1,h2⟩:=(h.en hm).1 (Qhk hb hc)
    rw[ht,Q8j]at h1
    exact⟨cs,Option.some.inj h1,h2⟩
  ·cases hx
theorem Rel.act(h:Rel X β ρ S a w){env':List En}(hs:a'.tmps.size=a.tmps.size)(hd:a'.defers=a.defers)(hr:∀t∈X.res,a'.tmps[t]?=a.tmps[t]?)
  (he:∀e∈env',(enD β ρ a' e).p (okR X β ρ S.mem w) w):Rel X β ρ ⟨env',S.mem⟩ a' w :=
 {sz:=hs.trans h.sz,df:=hd.trans h.df,fr:=fun t ht=>(hr t ht).trans (h.fr t ht),pn:=h.pn,tm:=by simp,bel:=h.bel,
  dat:=Jh.2 fun d hd=>by grind,
  obj:=h.obj,own:=h.own,dHH:=h.dHH,dHO:=h.dHO,dOO:=h.dOO }
theorem Vs{d t:Nat}(hne:t≠d)(v:Value):(a.put (some d) v).tmps[t]?=a.tmps[t]?:=by
 have:d≠t:=fun e=>hne e.symm
 grind [Act.put]
theorem Qk8{d t:Nat}(hne:t≠d)(v:Value):rd (a.put (some d) v) t=rd a t:=by
 grind [rd,Vs]
theorem en_put(h:Rel X β ρ S a w){d:Nat}(v:Value){e:En}(he:e∈Jx S.env d):(enD β ρ (a.put (some d) v) e).p (okR X β ρ S.mem w) w:=by
 obtain⟨h1,h2,h3⟩:=Iq he
 have hcc:J3 (a.put (some d) v) e.cs↔J3 a e.cs:=⟨fun hc c hm=>by rw[←Vs (h3 c hm) v]; exact hc c hm,fun hc c hm=>by rw[Vs (h3 c hm) v]; exact hc c hm⟩
 refine⟨fun hc=>?_,?_⟩
 ·obtain⟨cs,h4,h5⟩:=(h.en h1).1 (hcc.1 hc)
  grind [Qk8]
 ·rw[hcc,Qk8 h2]; exact(h.en h1).2
theorem Rel.put(h:Rel X β ρ S a w){d:Nat}(hd:okD X d=true){cs:Vz}{x:AV}{v:Value}
  (hx:J3 (a.put (some d) v) cs→∃c,v=x.val c∧cr β ρ (okR X β ρ S.mem w) w false x c) (hu:J3 (a.put (some d) v) cs∨v=undef):Rel X β ρ (S.put d cs x) (a.put (some d) v) w:=by
 refine h.act (by simp[Act.put]) rfl (fun k hk=>Vs (fun(e:k=d)=>Qy0 hd (e▸hk)) v) fun e he=>?_
 rcases QJ.1 he with rfl | he
 ·refine⟨fun hc=>?_,hu.imp id fun e=>by rw[Om (Qaw hd)]; simp[Act.put,h.sz,Qcg hd,e]⟩
  obtain⟨c,h1,h2⟩:=hx hc
  exact⟨c,by rw[Om (Qaw hd)]; simp[Act.put,h.sz,Qcg hd,h1],h2⟩
 ·exact en_put h v he
theorem Rel.del(h:Rel X β ρ S a w){d:Nat}(hd:okD X d=true)(v:Value):Rel X β ρ (S.del d) (a.put (some d) v) w :=
 h.act (by simp[Act.put]) rfl (fun k hk=>Vs (fun(e:k=d)=>Qy0 hd (e▸hk)) v) fun e he=>en_put h v he
theorem Rel.less(h:Rel X β ρ S a w){env':List En}(he:∀e∈env',e∈S.env):Rel X β ρ ⟨env',S.mem⟩ a w :=
 h.act rfl rfl (fun _ _=>rfl) fun e hm=>h.en (he e hm)
theorem Qf(a:Act):J3 a []:=fun _ h=>by cases h
theorem Rel.put0(h:Rel X β ρ S a w){d:Nat}(hd:okD X d=true){x:AV}{c:List Value}(hx:cr β ρ (okR X β ρ S.mem w) w false x c):Rel X β ρ (S.put d [] x) (a.put (some d) (x.val c)) w :=
 h.put hd (fun _=>⟨c,rfl,hx⟩) (.inl (Qf _))
def Qh:List (Nat×Ob)→Nat→Option Ob
 | [],_=>none
 | q::l,t=>bif Nat.beq q.1 t then some q.2 else Qh l t
def Rq:List (Nat×Ob)→Nat→Ob→List (Nat×Ob)
 | [],_,_=>[]
 | q::l,t,o=>bif Nat.beq q.1 t then(t,o)::l else q::Rq l t o
def J4:List (Nat×Ob)→Nat→List (Nat×Ob)
 | [],_=>[]
 | q::l,t=>bif Nat.beq q.1 t then l else q::J4 l t
theorem Jn:∀{l:List (Nat×Ob)} {t:Nat} {o:Ob},Qh l t=some o→∃l1 l2,l=l1++(t,o)::l2∧(∀o',Rq l t o'=l1++(t,o')::l2)∧J4 l t=l1++l2
 | q::l,t,o,h=>by
  simp only[Qh]at h
  cases hb:Nat.beq q.1 t with
  | true =>
   rw[hb]at h
   simp at h
   have:=Nat.eq_of_beq_eq_true hb
   subst h; subst this
   exact⟨[],l,rfl,fun o'=>by simp[Rq,hb],by simp[J4,hb]⟩
  | false =>
   rw[hb]at h
   obtain⟨l1,l2,h1,h2,h3⟩:=Jn h
   grind [Rq,J4]
theorem Rel.ob(h:Rel X β ρ S a w){id:Nat}{o:Ob}(ho:Qh S.mem id=some o) :
  (Qv β ρ id o).p (okR X β ρ S.mem w) w∧∀g,(Qv β ρ id o).blks g→X.mine g:=by
 obtain⟨l1,l2,h1,_⟩:=Jn ho
 exact h.own _ (by rw[h1]; simp[Qj])
end
end Gx
