/- Rows of the call's own whose elements are written. -/
import Derived.Test.YtcaflpbiaeemgaaGreatGCore
import Derived.Laws.MakeOwn
import Derived.ProofKit
import Derived.OpenShut
import Derived.Below
import Derived.ChangeSame
set_option linter.unusedVariables false
set_option linter.unusedSimpArgs false
namespace Gd
open Go Go.RowKit
theorem Ig{τ:Type}{r:RT τ}{ok:Ok}{w w':World}{xs:List τ}{cs:List Value}(h:Ga r ok w xs cs)(he:Evo ok w w'):Ga r ok w' xs cs:=((Jsz xs.length r).evo (x:=xs) ⟨rfl,h⟩ he).2
theorem Hh{τ:Type}{r:RT τ}{ok ok':Ok}{w:World}{xs:List τ}{cs:List Value}(h:Ga r ok w xs cs)(hk:∀b o,ok b o→ok' b o):Ga r ok' w xs cs:=((Jsz xs.length r).weak (x:=xs) ⟨rfl,h⟩ hk).2
theorem Q2y{τ:Type}{r:RT τ}{ok:Ok}{w:World}{xs:List τ}{cs:List Value}(h:Ga r ok w xs cs):∀c∈cs,c.oneCell'=true:=(Jsz xs.length r).flat (x:=xs) ⟨rfl,h⟩
def ml{τ:Type}(v:Value)(e:Nat)(r:RT τ)(xs:List τ):TL where
 blks:=fun g=>v.ownBlock=some g
 cov:=fun b _=>v.ownBlock=some b
 cb:=fun h=>h
 p:=fun ok w=>Gj v=xs.length∧∃cs,w.ownsRowS 0 e r.size v (Gj v) cs∧Ga r ok w xs cs
 keep:=fun⟨h1,cs,h2,h3⟩ hb he=>⟨h1,cs,Qfq h2 hb,Ig h3 he⟩
 weak:=fun⟨h1,cs,h2,h3⟩ hk=>⟨h1,cs,h2,Hh h3 hk⟩
 lt:=fun⟨_,_,h,_⟩ g hg=>(h.lt g hg).2
theorem Ih{τ:Type}{r:RT τ}{ok:Ok}{w:World}:∀{xs:List τ} {cs:List Value},Ga r ok w xs cs→∀{i:Nat} {y:τ},xs[i]?=some y→r.rep ok w y ((cs.drop (i*r.size)).take r.size)
 | x::xs,cs,⟨c1,c2,e,h1,h2⟩,i,y,hy=>by
  subst e;have hl:=r.len h1;cases i with
  | zero =>
   grind
  | succ i =>
   simp at hy;have:=Ih h2 hy
   have e:(c1++c2).drop ((i+1)*r.size)=c2.drop (i*r.size):=by
    rw[Nat.add_mul,KU,XT,←hl,←List.drop_drop,List.drop_left,hl]
   rw[e]; exact this
theorem Js5{τ:Type}{r:RT τ}{ok:Ok}{w:World}{e:Nat}{xs:List τ}{A:Option Addr}{m c:Nat}(h:(ml (.slice A m c) e r xs).p ok w):Ja7 r ok w xs A m c:=by
 obtain⟨hl,cs,hown,hr⟩:=h;have hm:Gj (.slice A m c)=m:=rfl;rw[hm]at hl hown
 have hrep:∀i x,xs[i]?=some x→∃ds,r.rep ok w x ds∧∀(j:Nat) u,ds[j]?=some u→cs[i*r.size+j]?=some u:=fun i x hx=>by
  refine⟨_,Ih hr hx,fun j u hu=>?_⟩;rw[JK]at hu;grind
 rcases hown.2 with⟨hv,h0⟩ | ⟨g,cap,cur,fz,hv,_,_,_,hle,_⟩
 ·injection hv with e1 e2 e3
  exact⟨cs,hown.1,hl.symm,by omega,fun _=>h0,Q2y hr,fun h=>absurd h (by omega),hrep⟩
 ·have hg:(Value.slice A m c).ownBlock=some g:=by rw[hv]; rfl
  have hcell:=hown.cells hg;injection hv with e1 e2 e3
  exact⟨cs,hown.1,hl.symm,by omega,(fun h=>absurd (e1.symm.trans h) (by simp)),Q2y hr,fun _=>⟨g,0,e1,fun j u hu=>by rw[←Bl]; grind⟩,hrep⟩
theorem Qxa{τ:Type}{r:RT τ}{ok:Ok}{w:World}:∀{xs:List τ} {cs:List Value},Ga r ok w xs cs→∀{i:Nat} {z:τ} {ds:List Value},i<xs.length→r.rep ok w z ds →
  Ga r ok w (xs.set i z) (cs.take (i*r.size)++ds++cs.drop (i*r.size+ds.length))
 | x::xs,cs,⟨c1,c2,e,h1,h2⟩,i,z,ds,hi,hz=>by
  subst e;have hl:=r.len h1;have hd:=r.len hz;cases i with
  | zero =>
   refine⟨ds,c2,?_,hz,h2⟩;grind
  | succ i =>
   refine⟨c1,_,?_,h1,Qxa h2 (by simpa using hi) hz⟩;have e1:(i+1)*r.size=c1.length+i*r.size:=by rw[Nat.add_mul,hl]; omega
   rw[e1,XC,List.append_assoc,List.append_assoc,List.append_assoc,JR,List.take_of_length_le (by omega)];grind [Nat.add_assoc,List.drop_drop,List.drop_left]
theorem Qbv{τ:Type}{r:RT τ}{ok:Ok}{w:World}:∀{xs ys:List τ} {cs ds:List Value},Ga r ok w xs cs→Ga r ok w ys ds→Ga r ok w (xs++ys) (cs++ds)
 | [],ys,cs,ds,h,h2=>by grind [Ga]
 | x::xs,ys,cs,ds,⟨c1,c2,e,h1,h3⟩,h2=>by subst e; exact⟨c1,c2++ds,by rw[List.append_assoc],h1,Qbv h3 h2⟩
theorem Qpn{τ:Type}{r:RT τ}{ok:Ok}{w:World}:∀(xs:List τ) (cs:List Value),cs.length=xs.length*r.size→(∀i x,xs[i]?=some x→∃ds,r.rep ok w x ds∧∀(j:Nat) u,ds[j]?=some u→cs[i*r.size+j]?=some u)→Ga r ok w xs cs
 | [],cs,hl,_=>by simp_all [Ga,QF]
 | x::xs,cs,hl,h=>by
  obtain⟨ds,hr,hd⟩:=h 0 x rfl;have hdl:=r.len hr;have hl':cs.length=r.size+xs.length*r.size:=by rw[hl]; grind
  refine⟨ds,cs.drop r.size,?_,hr,Qpn xs _ (by simp; omega) fun i y hy=>?_⟩
  ·have:cs.take r.size=ds:=by
    apply ZG;grind
   rw[←this,List.take_append_drop]
  ·obtain⟨es,he,hc⟩:=h (i+1) y (by simpa using hy)
   grind
section
variable {P:Program} {T:Tab} {β:Nat→Nat} {X:Cx} {G:GL} {D:List DF} {H:HL} {O:List TL} {a:Act} {w w':World}
variable {ops:Array Oper} {Q:Exit→Act→World→Prop} {rest:List Oper}
theorem Sb.mget(h:Sb β X G D H O a w){τ:Type}{r:RT τ}{xs:List τ}{A:Option Addr}{m c:Nat}{e:Nat}(hm:ml (.slice A m c) e r xs∈O){j:Int}{y:τ}(hy:idx xs j=some y)(hpos:0<r.size) :
  ∃g cap cur fz,A=some ⟨g,0,none⟩∧(w.heap[g]?=some (.cells cur e fz)∧Q6g fz cur.size)∧m=xs.length∧j.toNat<m∧m≤cap∧cap*r.size≤cur.size∧c=cap∧cap≤maxLen ∧
   Ga r (Jr X.ok X.w.heap.size β H O w) w xs (cur.toList.take (m*r.size)):=by
 obtain⟨⟨hl,cs,hown,hr⟩,_⟩:=h.own _ hm;obtain⟨h0,h1⟩:=El hy;have hlt:=(List.getElem?_eq_some_iff.1 h1).1;simp only[Gj]at hl hown;rcases hown.2 with⟨hv,h0⟩ | ⟨g,cap,cur,fz,hv,_,hh,hfz,hle,hcm,hcs,htk⟩
 ·omega
 ·injection hv with e1 e2 e3
  exact⟨g,cap,cur,fz,e1,⟨hh,hfz⟩,hl,by omega,hle,hcs,e3,hcm,by rw[htk]; exact hr⟩
theorem Q2z{cur:Array Value}{g e:Nat}{fz:Nat×Nat}(hh:w.heap[g]?=some (.cells cur e fz))(i:Nat):w.cell? ⟨g,i,none⟩=cur.toList[i]?:=by
 simp[World.cell?,hh]
theorem Jox(L ds:List Value){a s M off:Nat}(h1:a+s≤M)(h2:off+ds.length≤s)(h3:M≤L.length) :
  ((L.take (a+off)++ds++L.drop (a+off+ds.length)).take M) =
   (L.take M).take a++(((L.drop a).take s).take off++ds++((L.drop a).take s).drop (off+ds.length))++(L.take M).drop (a+s):=by
 apply ZG;intro i;simp only[List.getElem?_append,JK,JV,List.length_append,List.length_take,List.length_drop];grind
theorem Sb.upd(h:Sb β X G D H O a w){O1 O2:List TL}{t t':TL}(hO:O=O1++t::O2)(hos:w'.os=w.os)(htp:w'.tape=w.tape)(hout:w'.output=w.output)(hsz:w.heap.size≤w'.heap.size)
  (hblk:∀b,b<w.heap.size→¬ t.blks b→w'.heap[b]?=w.heap[b]?) (hcov:∀b o,t.blks b→t.cov b o) (hb':∀g,t'.blks g→t.blks g∨w.heap.size≤g)
  (hp:Evo (Jr X.ok X.w.heap.size β H O w) w w'→(∀b o,Jr X.ok X.w.heap.size β H O w b o→Jr X.ok X.w.heap.size β H (O1++t'::O2) w' b o)→t'.p (Jr X.ok X.w.heap.size β H (O1++t'::O2) w') w') :
  Sb β X G D H (O1++t'::O2) a w':=by
 subst hO;have hmem:t∈O1++t::O2:=by simp
 have hmine:=(h.own _ hmem).2;have hevo:Evo (Jr X.ok X.w.heap.size β H (O1++t::O2) w) w w':=Evo.of_blocks hsz fun b o hk=>hblk b hk.2.1 fun hb=>hk.2.2.2 t hmem (hcov b o hb)
 have hok:∀b o,Jr X.ok X.w.heap.size β H (O1++t::O2) w b o→Jr X.ok X.w.heap.size β H (O1++t'::O2) w' b o:=by
  rintro b o ⟨h1,h2,h3,h4⟩;refine⟨h1,QI h2 hsz,h3,fun u hu hc=>?_⟩;rcases QZ.1 hu with hu | hu
  ·grind
  ·rcases QX.1 hu with rfl | hu
   ·rcases hb' b (u.cb hc)with hb | hb
    ·grind
    ·omega
   grind
 have hpw:=QA.1 h.dOO;have hpw2:=List.pairwise_cons.1 hpw.2.1
 have hoth:∀u∈O1++O2,∀g,u.blks g→¬ t.blks g∧g<w.heap.size:=by
  intro u hu g hg;refine⟨fun hb=>?_,h.olt (by rcases QZ.1 hu with hu | hu<;>simp[hu]) hg⟩;grind
 have hnew:∀u∈O1++O2,∀g,u.blks g→¬ t'.blks g:=by
  grind
 refine { sz:=h.sz,df:=h.df,fr:=h.fr,pn:=h.pn,tm:=h.tm,bel:=?_,dat:=(h.dat.evo hevo).weak hok,obj:=?_,own:=?_,dHH:=h.dHH,dHO:=?_,dOO:=?_ }
 ·exact h.bel.trans ⟨hos,htp,hout,hsz,fun k hk hn=>hblk k (QI hk h.bel.size) fun hb=>(hmine k hb).elim (fun h=>by omega) hn⟩
 ·intro p hp'
  refine⟨?_,(h.obj p hp').2⟩;rw[hblk _ (h.hlt hp') (h.dHO p hp' t hmem)];exact(h.obj p hp').1
 ·intro u hu
  have keep:∀u∈O1++O2,u.p (Jr X.ok X.w.heap.size β H (O1++t'::O2) w') w'∧∀g,u.blks g→X.mine g:=by
   intro u hu;have hu':u∈O1++t::O2:=by rcases QZ.1 hu with hu | hu<;>simp[hu]
   exact⟨u.weak (u.keep (h.own u hu').1 (fun g hg=>hblk g (hoth u hu g hg).2 (hoth u hu g hg).1) hevo) hok,(h.own u hu').2⟩
  rcases QZ.1 hu with hu | hu
  ·grind
  ·rcases QX.1 hu with rfl | hu
   ·exact⟨hp hevo hok,fun g hg=>(hb' g hg).elim (hmine g) fun hb=>.inl (Nat.le_trans h.bel.size hb)⟩
   grind
 ·intro p hp' u hu
  rcases QZ.1 hu with hu | hu
  ·exact h.dHO p hp' u (by simp[hu])
  ·rcases QX.1 hu with rfl | hu
   ·intro hb
    rcases hb' _ hb with hb | hb
    ·exact h.dHO p hp' t hmem hb
    ·have:=h.hlt hp'; omega
   ·exact h.dHO p hp' u (by simp[hu])
 ·refine QA.2 ⟨hpw.1,List.pairwise_cons.2 ⟨fun u hu g hg hg2=>hnew u (by simp[hu]) g hg2 hg,hpw2.2⟩,?_⟩
  grind
theorem Sb.mset(h:Sb β X G D H O a w)(O1 O2:List TL){τ:Type}{r:RT τ}{xs:List τ}{m c g:Nat}{j:Int}{y z:τ}{e:TypeId}
  (hO:O=O1++ml (.slice (some ⟨g,0,none⟩) m c) e r xs::O2) (hy:idx xs j=some y) (hpos:0<r.size) {off:Nat} {ds:List Value} (hoff:off+ds.length≤r.size) (h1:∀d∈ds,d.oneCell'=true)
  (hz:∀es,r.rep (Jr X.ok X.w.heap.size β H O w) w y es→r.rep (Jr X.ok X.w.heap.size β H O w) w z (es.take off++ds++es.drop (off+ds.length))) :
  ∃cur fz,(w.heap[g]?=some (.cells cur e fz)∧Q6g fz cur.size)∧j.toNat*r.size+off+ds.length≤cur.size ∧
   Sb β X G D H (O1++ml (.slice (some ⟨g,0,none⟩) m c) e r (xs.set j.toNat z)::O2) a (w.setRow g (cur.toList.take (j.toNat*r.size+off)++ds++cur.toList.drop (j.toNat*r.size+off+ds.length)).toArray):=by
 have hmem:ml (.slice (some ⟨g,0,none⟩) m c) e r xs∈O:=by rw[hO]; simp
 obtain⟨g',cap,cur,fz,hA,⟨hh,hfz⟩,hm,hj,hle,hcs,hc,hcm,hr⟩:=h.mget hmem hy hpos;injection hA with hA; injection hA with hA; subst hA
 have hj1:(j.toNat+1)*r.size≤m*r.size:=QM _ hj;have hj2:m*r.size≤cap*r.size:=QM _ hle;rw[Nat.add_mul]at hj1;have hcl:cap*r.size≤cur.toList.length:=by simpa using hcs
 have hlen:j.toNat*r.size+off+ds.length≤cur.size:=by omega
 refine⟨cur,fz,⟨hh,hfz⟩,hlen,?_⟩;have hset:=setRow_heap w g cur (cur.toList.take (j.toNat*r.size+off)++ds++cur.toList.drop (j.toNat*r.size+off+ds.length)).toArray e _ hh;refine h.upd (t':=ml (.slice (some ⟨g,0,none⟩) m c) e r (xs.set j.toNat z)) hO rfl rfl rfl (by simp) (fun b hb hn=>setRow_other _ _ _ _ fun e=>hn (by subst e; rfl)) (fun b o hb=>hb) (fun g hg=>.inl hg) fun hevo hok=>?_;have hrep:=Ih hr (El hy).2;have hdrop:(cur.toList.take (m*r.size)).drop (j.toNat*r.size)=(cur.toList.drop (j.toNat*r.size)).take (m*r.size - j.toNat*r.size):=by rw[List.drop_take]
 have e1:((cur.toList.take (m*r.size)).drop (j.toNat*r.size)).take r.size=(cur.toList.drop (j.toNat*r.size)).take r.size:=by
  rw[hdrop,XF]; congr 1; omega
 rw[e1]at hrep;have hnew:=hz _ hrep;have hL:((cur.toList.drop (j.toNat*r.size)).take r.size).length=r.size:=r.len hrep;refine⟨by simp[Gj,hm],_,⟨?_,.inr ⟨g,cap,_,fz,by rw[hc]; rfl,QN _,hset,by rw[JD,List.length_append,List.length_append,List.length_take,List.length_drop,Nat.min_eq_left (by omega),show j.toNat*r.size+off+ds.length+(cur.toList.length - (j.toNat*r.size+off+ds.length))=cur.size by simp; omega]; exact hfz,hle,hcm,by rw[JD,List.length_append,List.length_append,List.length_take,List.length_drop]; omega,rfl⟩⟩,?_⟩
 ·grind [Gj,List.length_take,List.length_append,List.length_drop]
 ·have h2:=Qxa (Hh (Ig hr hevo) hok) (i:=j.toNat) (z:=z) (by omega) (r.weak (r.evo hnew hevo) hok)
  simp only[Gj];have hfin:=Jox cur.toList ds (a:=j.toNat*r.size) (s:=r.size) (M:=m*r.size) (off:=off) (by omega) hoff (by omega);rw[hfin]
  have hlen2:(List.take off (List.take r.size (List.drop (j.toNat*r.size) cur.toList))++ds++List.drop (off+ds.length) (List.take r.size (List.drop (j.toNat*r.size) cur.toList))).length=r.size:=by
   simp; omega
  rw[hlen2]at h2;exact h2
def mkL{α:Type}(bytes:Nat)(l c:Int)(z:α):Option (List α):=if 0≤l∧l≤c∧(bytes:Int)*c≤281474976710656 then some (List.replicate l.toNat z)else none
theorem Qxb(zc:List Value):∀l:Nat,((List.range (l*zc.length)).map fun j=>zc.getD (j % zc.length) undef)=(List.replicate l zc).flatten
 | 0=>by simp
 | l+1=>by
  rw[Nat.add_mul,KU,List.range_add,QC,Qxb zc l,List.replicate_succ',KX];congr 1;simp only[List.map_map,List.flatten_cons,List.flatten_nil,QH];apply ZA
  ·simp
  simp_all [XD,List.getElem_range,Function.comp,Nat.mul_comm,Nat.mul_add_mod,Nat.mod_eq_of_lt]
theorem Jba{τ:Type}{r:RT τ}{ok:Ok}{z:τ}{zc:List Value}(h:r.rep ok w z zc):∀l,Ga r ok w (List.replicate l z) (List.replicate l zc).flatten
 | 0=>by simp[Ga]
 | l+1=>⟨zc,(List.replicate l zc).flatten,by grind,h,Jba h l⟩
theorem Joy(hT:Jg P T)(h:Sb β X G D H O a w){t:TypeId}{lo co:Operand}{d:Nat}{ps:String}{af:Array Edge}{ty:TypeId}{gd:Option (Nat×Bool)}
  (hg:Nu ops G ⟨some d,.makeSlice t lo co,ty,ps,af,gd⟩=some true) (hlt:okD X d=true)
  {τ:Type} {r:RT τ} {z:τ} {zs:List τ} {kl kc:IntKind} {l c:Int} {e:TypeId} {te ee:TE} (ht:Qo T t=some te) (htd:te.d=.slice e) (he:Qo T e=some ee) (hs:ee.size=r.size)
  (hzl:Nat.beq (Q4 ee.z).length ee.size=true) (hby:Nat.ble 1 ee.bytes=true) (hz:∀ok w,r.rep ok w z (Q4 ee.z))
  (hl:gv G lo=some (.v (.int kl l))) (hc:gv G co=some (.v (.int kc c))) (hmk:mkL ee.bytes l c z=some zs)
  (hk:∀b a' w',Sb β X (Qfp G d (.v (.slice (some ⟨b,0,none⟩) zs.length c.toNat))) D H (ml (.slice (some ⟨b,0,none⟩) zs.length c.toNat) e r zs::O) a' w'→wpList P ops Q rest a' w') :
  wpList P ops Q (⟨some d,.makeSlice t lo co,ty,ps,af,gd⟩::rest) a w:=by
 unfold mkL at hmk;split at hmk
 ·rename_i hcd
  obtain⟨h0,h1,h2⟩:=hcd;have hzs:zs=List.replicate l.toNat z:=(Option.some.inj hmk).symm;have hlen:zs.length=l.toNat:=by rw[hzs]; simp
  have hu:P.underlying t=some (.slice e):=by rw[(J0 hT ht).2,htd]
  obtain⟨i,hi,hz',hsi,hbi⟩:=Ek hT he;have hby':1≤ee.bytes:=QV hby
  have hc63:c≤281474976710656:=by
   have:(1:Int)*c≤(ee.bytes:Int)*c:=XI (by omega) (by omega);omega
  have hzz:=Nat.eq_of_beq_eq_true hzl;have hr:=run_make (P:=P) w t e i ee.z hu hi hz' kl kc l c h0 h1 (by rw[hbi]; exact h2) (by omega)
  have hrun:(execOp a.eval ⟨some d,.makeSlice t lo co,ty,ps,af,gd⟩).run P w=.ok (.value (.slice (some ⟨w.heap.size,0,none⟩) zs.length c.toNat)) (w.alloc (.cells (madeCells ee.z.cells (c.toNat*i.size)) e)):=by
   unfold execOp;simp only[h.ev hl,h.ev hc,R4];simp[hr,hlen]
  refine J5 (Wm h hg) (Vi hrun ?_);have hb:Below w.heap.size w (w.alloc (.cells (madeCells ee.z.cells (c.toNat*i.size)) e)):=(Below.refl _ _).alloc (QY _) _
  have hcells:(madeCells ee.z.cells (c.toNat*i.size)).toList=(List.replicate c.toNat (Q4 ee.z)).flatten:=by
   rw[←Qxb,hzz,hsi];unfold madeCells;rw[Uk]at hzz ⊢;simp only[Array.toList_map,Array.toList_range];grind [List.map_congr_left,Nat.eq_zero_or_pos,Nat.mod_lt,List.getElem?_eq_getElem]
  refine hk _ _ _ ((h.allocTL hb (t:=ml (.slice (some ⟨w.heap.size,0,none⟩) zs.length c.toNat) e r zs) (fun g hg=>?_) ⟨rfl,(List.replicate l.toNat (Q4 ee.z)).flatten,⟨?_,.inr ⟨w.heap.size,c.toNat,_,(0,0),rfl,QN _,heap_alloc_new w _,.inl rfl,?_,?_,?_,?_⟩⟩,?_⟩).put hlt (.v _))
  ·have hg:some w.heap.size=some g:=hg
   grind
  ·simp_all [Gj]
  ·grind [Gj]
  ·rw[Nx]; omega
  ·grind [Nat.le_of_eq,size_madeCells]
  ·simp only[Gj]
   rw[hcells,hlen];have e1:c.toNat=l.toNat+(c.toNat - l.toNat):=by omega
   rw[e1,←List.replicate_append_replicate,KX];have e2:l.toNat*r.size=(List.replicate l.toNat (Q4 ee.z)).flatten.length:=by simp[hzz,hs]
   rw[e2,List.take_left]
  grind [Jba]
 ·cases hmk
end
end Gd

/- Rows that are appended to, frozen, lent to a call. -/
namespace Gd
open Go Go.RowKit
section
variable {P:Program} {T:Tab} {β:Nat→Nat} {X:Cx} {G:GL} {D:List DF} {H:HL} {O:List TL} {a:Act} {w w':World}
variable {ops:Array Oper} {Q:Exit→Act→World→Prop} {rest:List Oper}
theorem Sb.addNilM(h:Sb β X G D H O a w)(e:Nat){τ:Type}(r:RT τ):Sb β X G D H (ml (.slice none 0 0) e r []::O) a w :=
 h.allocTL (Below.refl _ _) (fun g hg=>by have hg:(none:Option Nat)=some g:=hg; cases hg) ⟨rfl,[],World.ownsRowS_nil _ _ _ _,rfl⟩
theorem Sb.freeze(h:Sb β X G D H O a w){τ:Type}{r:RT τ}{xs:List τ}{A:Option Addr}{c:Nat}{e:Nat}{O2:List TL}(hO:O=ml (.slice A xs.length c) e r xs::O2)(hpos:Nat.ble 1 r.size=true) :
  Sb β X G (DF.v (rSl r) xs (.slice A xs.length c)::D) H (tl (.slice A xs.length c) e r.size::O2) a w:=by
 subst hO;have hmem:ml (.slice A xs.length c) e r xs∈ml (.slice A xs.length c) e r xs::O2:=.head _;obtain⟨⟨hl,cs,hown,hr⟩,hmine⟩:=h.own _ hmem
 have hok:∀b o,Jr X.ok X.w.heap.size β H (ml (.slice A xs.length c) e r xs::O2) w b o→Jr X.ok X.w.heap.size β H (tl (.slice A xs.length c) e r.size::O2) w b o:=by
  rintro b o ⟨h1,h2,h3,h4⟩;refine⟨h1,h2,h3,fun u hu hc=>?_⟩;rcases QX.1 hu with rfl | hu
  ·exact h4 _ (.head _) hc.1
  grind
 have hpw:=List.pairwise_cons.1 h.dOO;refine { sz:=h.sz,df:=h.df,fr:=h.fr,pn:=h.pn,tm:=h.tm,bel:=h.bel,dat:=⟨?_,h.dat.weak hok⟩,obj:=h.obj,own:=fun u hu=>?_,dHH:=h.dHH,dHO:=fun p hp u hu=>?_,dOO:=List.pairwise_cons.2 ⟨fun u hu g hg=>hpw.1 u hu g hg,hpw.2⟩ }
 ·refine Xv.2 ⟨A,xs.length,c,rfl,rfl,?_,fun h0=>?_⟩
  ·rcases hown.2 with⟨hv,h0⟩ | ⟨g,cap,cur,fz,hv,_,_,_,hle,_⟩
   ·grind
   grind
  ·rcases hown.2 with⟨hv,h1⟩ | ⟨g,cap,cur,fz,hv,_,hh,hfz,hle,hcm,hcs,htk⟩
   ·grind
   ·injection hv with e1 e2 e3
    simp only[Gj]at hle htk;refine⟨g,0,e1,fun i x hx=>?_⟩;have hi:=(List.getElem?_eq_some_iff.1 hx).1;have hrep:=Ih hr hx;refine⟨_,r.weak hrep hok,fun j u hu=>?_⟩;have hj:j<r.size:=by have:=(List.getElem?_eq_some_iff.1 hu).1; rw[r.len hrep]at this; exact this
    have hgb:(Value.slice A xs.length c).ownBlock=some g:=by rw[e1]; rfl
    rw[QW];refine⟨⟨X.mine_ok (hmine g hgb) _,Uc hh,fun p hp e2=>h.dHO p hp _ hmem (by rw[e2]; exact hgb),fun u' hu' hc=>?_⟩,?_⟩
    ·rcases QX.1 hu' with rfl | hu'
     ·have:=hc.2
      grind
     ·exact hpw.1 u' hu' g hgb (u'.cb hc)
    grind [Q2z,List.getElem?_take_of_lt]
 ·rcases QX.1 hu with rfl | hu
  ·exact⟨⟨cs,hown⟩,hmine⟩
  ·exact⟨u.weak (h.own u (.tail _ hu)).1 hok,(h.own u (.tail _ hu)).2⟩
 ·rcases QX.1 hu with rfl | hu
  ·exact fun hg=>(h.dHO p hp _ hmem) hg
  ·exact h.dHO p hp u (.tail _ hu)
theorem Qpo(hT:Jg P T)(h:Sb β X G D H O a w)(O1 O2:List TL){t:TypeId}{s x:Operand}{d:Nat}{ps:String}{af:Array Edge}{ty:TypeId}{gd:Option (Nat×Bool)}
  (hg:Nu ops G ⟨some d,.call ⟨.builtin .append,⟨[s,x]⟩,⟨[t,t]⟩⟩,ty,ps,af,gd⟩=some true) (hlt:okD X d=true)
  {τ:Type} {r:RT τ} {xs ys zs:List τ} {A:Option Addr} {A2:Option Addr} {m c m2 c2:Nat} {e:TypeId} {te ee:TE} (ht:Qo T t=some te) (htd:te.d=.slice e) (he:Qo T e=some ee) (hs:ee.size=r.size)
  (hz:Nat.beq (Q4 ee.z).length ee.size=true) (hsz:Nat.ble 1 ee.size=true) (hby:Nat.ble 1 ee.bytes=true)
  (hO:O=O1++ml (.slice A m c) e r xs::O2) (hs1:gv G s=some (.v (.slice A m c))) (hx1:gv G x=some (.v (.slice A2 m2 c2)))
  (hDy:Ja7 r (Jr X.ok X.w.heap.size β H O w) w ys A2 m2 c2) (happ:app ee.bytes xs ys=some zs)
  (hk:∀A' c' a' w',Sb β X (Qfp G d (.v (.slice A' zs.length c'))) D H (O1++ml (.slice A' zs.length c') e r zs::O2) a' w'→wpList P ops Q rest a' w') :
  wpList P ops Q (⟨some d,.call ⟨.builtin .append,⟨[s,x]⟩,⟨[t,t]⟩⟩,ty,ps,af,gd⟩::rest) a w:=by
 obtain⟨hbytes,rfl⟩:=Qrn happ;have hmem:ml (.slice A m c) e r xs∈O:=by rw[hO]; simp
 obtain⟨⟨hl,xs0,hown,hr⟩,hmine⟩:=h.own _ hmem;obtain⟨csy,hcy1,hyl,hmc2,hA2,hcy2,hcy3,hcy4⟩:=hDy;have hzl:=Nat.eq_of_beq_eq_true hz;have hsz':0<ee.size:=QV hsz;have hby':0<ee.bytes:=QV hby
 have hnews:∀ad,A2=some ad→∀j u,csy[j]?=some u→w.cell? (ad.add j)=some u:=by
  intro ad had j u hu;have hj:=(List.getElem?_eq_some_iff.1 hu).1
  have hm2:0<m2:=by
   grind
  grind [Bl]
 simp only[Gj]at hown hl;rw[←hs]at hown;obtain⟨v',w1,hrun,hown',hgrow,hblk⟩:=Qnx (P:=P) (w:=w) (ty:=ty) hT ht htd he hzl hsz' hby' hown (QN _) (k:=m2) (c:=c2) (A:=A2) (news:=csy) (by rw[hs]; exact hcy1) hA2 hnews hcy2 (by rw[hl,←hyl]; exact hbytes)
 have hrun':(execOp a.eval ⟨some d,.call ⟨.builtin .append,⟨[s,x]⟩,⟨[t,t]⟩⟩,ty,ps,af,gd⟩).run P w=.ok (.value v') w1:=by
  unfold execOp;have hm:(Array.mk [s,x]).map a.eval=⟨[.slice A m c,.slice A2 m2 c2]⟩:=by simp[h.ev hs1,h.ev hx1,R4]
  simp_all [resolve,invoke,builtin]
 have hform:∃A' c',v'=.slice A' (m+m2) c':=by
  rcases hown'.2 with⟨rfl,h0⟩ | ⟨g,cap,cur,fz,rfl,_⟩
  ·grind
  grind
 obtain⟨A',c',rfl⟩:=hform;have hlen:m+m2=(xs++ys).length:=by rw[List.length_append,hl,hyl]
 refine J5 (Wm h hg) (Vi hrun' ?_)
 have hS:Sb β X G D H (O1++ml (.slice A' (m+m2) c') e r (xs++ys)::O2) a w1:=by
  refine h.upd hO hgrow.os hgrow.tape hgrow.output hgrow.size (fun b hb hn=>hgrow.block b hb fun e=>hn e.symm) (fun b o hb=>hb) (fun g hg=>?_) fun hevo hok=>?_
  ·rcases hblk with he1 | ⟨he1,_⟩
   ·exact .inl (by have hg:(Value.slice A' (m+m2) c').ownBlock=some g:=hg; rw[he1]at hg; exact hg)
   ·have hg:(Value.slice A' (m+m2) c').ownBlock=some g:=hg
    rw[he1]at hg; grind
  ·refine⟨hlen,xs0++csy,by rw[←hs]; exact hown',Qbv (Hh (Ig hr hevo) hok) (Hh (Ig ?_ hevo) hok)⟩
   grind [Qpn]
 have:=hk A' c' (a.put (some d) (.slice A' (m+m2) c')) w1;rw[←hlen]at this;exact this (hS.put hlt (.v _))
end
end Gd
namespace Gd
open Go Go.RowKit
section
variable {P:Program} {T:Tab} {β:Nat→Nat} {X:Cx} {G:GL} {D:List DF} {H:HL} {O:List TL} {a:Act} {w w':World}
variable {ops:Array Oper} {Q:Exit→Act→World→Prop} {rest:List Oper}
def J5s(v:Value):List Nat:=match v.ownBlock with
 | some g=>[g]
 | none=>[]
theorem Jbb{v:Value}{g:Nat}:g∈J5s v↔v.ownBlock=some g:=by
 unfold J5s;grind
def Qtu(Ts:List TL)(L:List Nat)(ok:Ok)(w:World):Prop :=
 (∀t∈Ts,t.p ok w∧(∀g,t.blks g→g∈L)∧∀g o,t.blks g→¬ ok g o)∧(Ts.Pairwise fun s t=>∀g,s.blks g→¬ t.blks g)∧∀g∈L,∃t∈Ts,t.blks g
theorem Joz{f:FuncId}{fn:Func}{c:Code}{vs:List Value}{R:Value→World→Prop}{ok:Ok}{n:Nat}{L:List Nat}{O:List TL}(hok:∀b o,ok b o→b<w.heap.size)
  (hf:P.funcs[f]?=some fn) (hb:fn.body=some c) (hn:fn.ntmps=n) (hle:Nat.ble vs.length n=true) {D:List DF} (hD:Qpg ok w D) (hO:Qtu O L ok w)
  (h:∀a,Sb (fun _=>0) (cxL L n ok w) (Ja3 vs 0) D [] O a w→c.wp P (bodyPost P fn (Q6k L w R)) a w):Calls P f ⟨vs⟩ w (Q6k L w R):=by
 refine calls_of_wp hf hb (h _ ?_);have hle':=QV hle;have hk:∀b o,ok b o→Jr (okL L ok) w.heap.size (fun _=>0) [] O w b o:=fun b o hbo=>⟨.inl (.inl hbo),hok b o hbo,by simp,fun t ht hc=>(hO.1 t ht).2.2 b o (t.cb hc) hbo⟩
 refine { sz:=by grind,df:=rfl,fr:=by simp,pn:=by simp,tm:=?_,bel:=Ki.refl _ _ _,dat:=hD.weak hk,obj:=by simp,own:=fun t ht=>⟨t.weak (hO.1 t ht).1 hk,fun g hg=>.inr ((hO.1 t ht).2.1 g hg)⟩,dHH:=by simp,dHO:=by simp,dOO:=hO.2.1 };intro p hp;obtain⟨j,v,rfl,hv⟩:=Ja4 hp;have hj:=(List.getElem?_eq_some_iff.1 hv).1;simp_all [QW,R4,XZ]
theorem Sb.melt0{A:Option Addr}{c e:Nat}{τ:Type}{r:RT τ}{O2:List TL}(h:Sb β X G D H (tl (.slice A 0 c) e r.size::O2) a w):Sb β X G D H (ml (.slice A 0 c) e r []::O2) a w:=by
 have hok:∀b o,Jr X.ok X.w.heap.size β H (tl (.slice A 0 c) e r.size::O2) w b o→Jr X.ok X.w.heap.size β H (ml (.slice A 0 c) e r []::O2) w b o:=by
  rintro b o ⟨h1,h2,h3,h4⟩;refine⟨h1,h2,h3,fun u hu hc=>?_⟩;rcases QX.1 hu with rfl | hu
  ·exact h4 _ (.head _) ⟨hc,by simp[Gj]⟩
  grind
 obtain⟨⟨cs,hown⟩,hmine⟩:=h.own _ (.head _);have hpw:=List.pairwise_cons.1 h.dOO
 have hcs:cs=[]:=by
  have:=hown.1;simp_all [Gj,ZQ,QF]
 refine { sz:=h.sz,df:=h.df,fr:=h.fr,pn:=h.pn,tm:=h.tm,bel:=h.bel,dat:=h.dat.weak hok,obj:=h.obj,own:=fun u hu=>?_,dHH:=h.dHH,dHO:=fun p hp u hu=>?_,dOO:=List.pairwise_cons.2 ⟨fun u hu g hg=>hpw.1 u hu g hg,hpw.2⟩ }
 ·rcases QX.1 hu with rfl | hu
  ·exact⟨⟨rfl,cs,hown,by subst hcs; rfl⟩,hmine⟩
  ·exact⟨u.weak (h.own u (.tail _ hu)).1 hok,(h.own u (.tail _ hu)).2⟩
 ·rcases QX.1 hu with rfl | hu
  ·exact fun hg=>h.dHO p hp _ (.head _) hg
  ·exact h.dHO p hp u (.tail _ hu)
end
end Gd

/- Results of a call's own, as rows that will be written: for elements that hold no addresses. -/
namespace Gd
open Go Go.RowKit
section
variable {P:Program} {T:Tab} {β:Nat→Nat} {X:Cx} {G:GL} {D:List DF} {H:HL} {O:List TL} {a:Act} {w w':World}
variable {ops:Array Oper} {Q:Exit→Act→World→Prop} {rest:List Oper}
end
end Gd

/- From a statement's arguments to typed values, and back to the statement. -/
namespace Gd
open Go Go.RowKit Go.WideShapes Go.ChangeShapes
def O7{τ:Type}(P:Program)(r:RT τ)(t:TypeId)(good:τ→Prop):Prop :=
 P.cellsOf t=r.size∧(∀{w:World} {rc:Reach} {b:Nat} {v:Value},Value.okWide P w rc b t v→(r.agg=true→∃cs,v=.agg cs)∧(r.agg=false→∃c,v.cells=#[c]∧v=c)) ∧
 ∀{H:Type} (enc:TypeId×Value→H) (w:World) (n:Nat) (cs:List Value) (x:DataW H×List MemPlace),
  DataW.trod enc P w 0 (fun _=>true) true n t cs=some x→∃y,r.rep (lt w) w y cs∧good y
def Js6(k:IntKind)(n:Int):Prop:=k.min≤n∧n≤k.max
def Js7(s:Str):Prop:=s.length≤maxLen
def J7m(_:Bool):Prop:=True
def Qxc{τ:Type}(g:τ→Prop)(l:List τ):Prop:=l.length≤maxLen∧∀x∈l,g x
section
variable {P:Program}
theorem Jo0{t:TypeId}{k:IntKind}(ht:P.underlying t=some (.int k))(hc:P.cellsOf t=1):O7 P (Qfo k) t (Js6 k):=by
 refine⟨hc,fun hv=>⟨fun h=>(nomatch h),fun _=>?_⟩,fun enc w n cs x h=>?_⟩
 ·obtain⟨n,rfl⟩:=okWide_int ht hv
  exact⟨_,rfl,rfl⟩
 ·obtain⟨m,rfl,_,hw⟩:=DataW.trod_int ht h
  exact⟨m,rfl,by grind [Lit.wf,Js6]⟩
theorem Jh1{t:TypeId}(ht:P.underlying t=some .bool)(hc:P.cellsOf t=1):O7 P Q2v t J7m:=by
 refine⟨hc,fun hv=>⟨fun h=>(nomatch h),fun _=>?_⟩,fun enc w n cs x h=>?_⟩
 ·obtain⟨n,rfl⟩:=okWide_bool ht hv
  exact⟨_,rfl,rfl⟩
 ·obtain⟨m,rfl,_⟩:=DataW.trod_bool ht h
  exact⟨m,rfl,trivial⟩
theorem Jo1{t:TypeId}(ht:P.underlying t=some .string)(hc:P.cellsOf t=1):O7 P J5r t Js7:=by
 refine⟨hc,fun hv=>⟨fun h=>(nomatch h),fun _=>?_⟩,fun enc w n cs x h=>?_⟩
 ·obtain⟨n,rfl⟩:=okWide_string ht hv
  exact⟨_,rfl,rfl⟩
 ·obtain⟨s,rfl,_,hs⟩:=DataW.trod_string ht h
  refine⟨s.data.toList,?_,by simp_all [Js7]⟩;show [Value.string s]=[Yw s.data.toList]
  simp[Yw]
theorem Js8{τ:Type}{r:RT τ}{t e:TypeId}{g:τ→Prop}(ht:P.underlying t=some (.slice e))(hc:P.cellsOf t=1)(he:O7 P r e g)(hpos:0<r.size):O7 P (rSl r) t (Qxc g):=by
 refine⟨hc,fun hv=>⟨fun h=>(nomatch h),fun _=>?_⟩,fun enc w n cs x h=>?_⟩
 ·obtain⟨a,l,c,rfl⟩:=okWide_slice ht hv
  exact⟨_,rfl,rfl⟩
 ·rcases DataW.trod_slice ht h with⟨rfl,_⟩ | ⟨a,len,cap,elems,rest,m,_,rfl,_,_,hlc,hcm,hel,hall,_⟩
  ·exact⟨[],⟨_,rfl,none,0,0,rfl,rfl,QY _,fun h0=>absurd h0 (by omega)⟩,by simp[Qxc]⟩
  ·have hsz:P.cellsOf e=r.size:=he.1
   have h1:∀i,i<len→∃y cs,r.rep (lt w) w y cs∧g y∧w.cells? 0 (a.add (i*P.cellsOf e)) (P.cellsOf e)=some cs:=by
    intro i hi;have:=hall i hi;obtain⟨z,hz⟩:∃z,elems[i]?=some z:=⟨elems[i]'(by omega),List.getElem?_eq_getElem (by omega)⟩
    rw[hz]at this;obtain⟨cs,hcs,hz2⟩:=Option.bind_eq_some_iff.1 this;obtain⟨y,hy,hg⟩:=he.2.2 enc w m cs z hz2;grind
   have h2:∀k,k≤len→∃ys:List τ,ys.length=k∧∀i y,ys[i]?=some y→∃cs,r.rep (lt w) w y cs∧g y∧w.cells? 0 (a.add (i*P.cellsOf e)) (P.cellsOf e)=some cs:=by
    intro k
    induction k with
    | zero=>simp_all
    | succ k ih =>
     intro hk;obtain⟨ys,hl,hys⟩:=ih (by omega);obtain⟨y,cs,hy,hg,hcs⟩:=h1 k (by omega);refine⟨ys++[y],by simp[hl],fun i z hz=>?_⟩;grind
   obtain⟨ys,hl,hys⟩:=h2 len (QY _);refine⟨ys,⟨_,rfl,some a,len,cap,rfl,hl,hlc,fun h0=>?_⟩,⟨by omega,fun y hy=>?_⟩⟩
   ·have hsp:a.spot=none:=by
     obtain⟨y,cs,_,_,hcs⟩:=h1 0 h0;obtain⟨_,hlen,hcell⟩:=World.cells?_some hcs;have g0:=hcell 0 (by omega);grind [List.getElem?_eq_getElem,Addr.add,World.cell?_spot]
    obtain⟨b,o,sp⟩:=a;simp only at hsp;subst hsp;refine⟨b,o,rfl,fun i y hi=>?_⟩;obtain⟨cs,hy,_,hcs⟩:=hys i y hi;obtain⟨_,hlen,hcell⟩:=World.cells?_some hcs;refine⟨cs,hy,fun j u hu=>?_⟩;have hj:j<P.cellsOf e:=by rw[←hlen]; grind
    have:=hcell j hj;rw[hu,add_plain,add_plain,hsz]at this;refine⟨?_,this⟩;show b<w.heap.size;grind [World.cell?,Nat.lt_or_ge,Array.getElem?_eq_none]
   grind [List.getElem?_of_mem]
theorem O7.fld{τ:Type}{r:RT τ}{t:TypeId}{g:τ→Prop}(ho:O7 P r t g){H:Type}{enc:TypeId×Value→H}{w:World}{n:Nat}{cs:List Value}{fs:Array Field}{xs:List (DataW H×List MemPlace)}
  (hlen:xs.length=fs.size) (hf:∀(i:Nat) (f:Field),fs[i]?=some f→DataW.trod enc P w 0 (fun _=>true) true n f.type ((cs.drop f.offset).take (P.cellsOf f.type))=xs[i]?)
  (i:Nat) (o:Nat) {f:Field} (hi:fs[i]?=some f) (ht:f.type=t) (hof:f.offset=o):∃y,r.rep (lt w) w y ((cs.drop o).take r.size)∧g y:=by
 have h1:=hf i f hi;have hlt:=(Array.getElem?_eq_some_iff.1 hi).1;rw[List.getElem?_eq_getElem (by omega),ht,hof,ho.1]at h1;exact ho.2.2 enc w n _ _ h1
theorem O7.arg{τ:Type}{r:RT τ}{t:TypeId}{g:τ→Prop}(ho:O7 P r t g){H:Type}{enc:TypeId×Value→H}{w:World}{rc:Reach}{b:Nat}{v:Value}{d:DataW H}{ps:List MemPlace}
  (hv:Value.okWide P w rc b t v) (h:DataW.Trod enc P w 0 (fun _=>true) true t v d ps):∃y,isV r (lt w) w y v∧g y:=by
 obtain⟨n,hn⟩:=h;obtain⟨y,hy,hg⟩:=ho.2.2 enc w n _ _ hn;refine⟨y,⟨_,hy,?_⟩,hg⟩;unfold RT.val;cases ha:r.agg with
 | true =>
  obtain⟨cs,rfl⟩:=(ho.2.1 hv).1 ha;simp[Value.cells]
 | false =>
  obtain⟨c,hc,rfl⟩:=(ho.2.1 hv).2 ha;rw[hc]; simp
end
section
variable {H:Type} {enc:TypeId×Value→H} {P:Program} {W:World} {base:Nat} {vs:List String}
theorem J7n{t1 t2:TypeId}{args:Array Value}{ds gs:List (DataW H)}{before:List MemPlace}{ts:Array TypeId}(hts:ts=#[t1,t2])
  (hval:∀(j:Nat) t v,ts[j]?=some t→args[j]?=some v→Value.okWide P W .any base t v) (hW:DataW.Whole enc P ts.toList vs false W args.toList ds gs before)
  {τ1 τ2:Type} {r1:RT τ1} {r2:RT τ2} {g1:τ1→Prop} {g2:τ2→Prop} (ho1:O7 P r1 t1 g1) (ho2:O7 P r2 t2 g2) :
  ∃v1 v2 y1 y2,args=⟨[v1,v2]⟩∧isV r1 (lt W) W y1 v1∧g1 y1∧isV r2 (lt W) W y2 v2∧g2 y2:=by
 subst hts;obtain⟨p,q,hA,_⟩:=hW;obtain⟨v1,vs1,d1,ds1,p1,q1,hargs,rfl,rfl,h1,k1⟩:=trodAll_cons hA;obtain⟨v2,vs2,d2,ds2,p2,q2,rfl,rfl,rfl,h2,k2⟩:=trodAll_cons k1;obtain⟨rfl,rfl,rfl⟩:=trodAll_nil k2;obtain rfl:args=⟨[v1,v2]⟩:=by grind
 obtain⟨y1,hy1,hg1⟩:=ho1.arg (hval 0 t1 v1 rfl rfl) h1;obtain⟨y2,hy2,hg2⟩:=ho2.arg (hval 1 t2 v2 rfl rfl) h2;grind
theorem Qm9(hl:laidOutB P=true){W':World}{sp:Nat→Bool}:∀{ts:List TypeId} {vs:List Value} {ds:List (DataW H)} {ps:List MemPlace},
  (ts.all fun t=>P.readableRec t&&decide (t<P.types.size))=true→DataW.TrodAll enc P W 0 (fun _=>true) true ts vs ds ps→(∀p∈ps,W.sameAt W' p)→(∀p∈ps,sp p.block=true)→DataW.TrodAll enc P W' 0 sp true ts vs ds ps
 | [],[],[],_,_,h,_,_=>h
 | t::ts,v::vs,d::ds,ps,hr,⟨p,q,h,hs,e⟩,h1,h2=>by
  subst e;simp only[XW,QQ,decide_eq_true_eq]at hr
  exact⟨p,q,WideElems.Trod_stays hl hr.1.1 hr.1.2 h (fun x hx=>h1 x (QZ.2 (.inl hx))) (fun x hx=>h2 x (QZ.2 (.inl hx))),
   Qm9 hl hr.2 hs (fun x hx=>h1 x (QZ.2 (.inr hx))) (fun x hx=>h2 x (QZ.2 (.inr hx))),rfl⟩
theorem Qtv{w:World}{sp:Nat→Bool}{hd:Bool}:∀{ts:List TypeId} {vs:List Value} {ds:List (DataW H)} {ps:List MemPlace},DataW.TrodAll enc P w base sp hd ts vs ds ps→ds.length=ts.length
 | [],[],[],_,_=>rfl
 | _::_,_::_,_::_,_,⟨_,_,_,hs,_⟩=>congrArg (·+1) (Qtv hs)
theorem Js9{f:FuncId}{fn:Func}{s:ChangeSpec}{args:Array Value}{ds gs:List (DataW H)}{before:List MemPlace}{tb:TypeId}
  (hres:fn.resultTypes=#[tb]) (hb:P.underlying tb=some .bool) (hv:s.vars=[]) (hlaid:laidOutB P=true)
  (hread:(fn.params.toList.all fun t=>P.readableRec t&&decide (t<P.types.size))=true)
  (hspec:∀d:List (DataW H),d.length=fn.params.size→s.fn H d={ results:=[.lit (.bool true)],args:=d })
  (hW:DataW.Whole enc P fn.params.toList s.vars false W args.toList ds gs before)
  (hcall:Calls P f args W (Ret W (R1 Q2v (lt W) W true))) :
  Calls P f args W fun e W'=>∃v,e=.returned v∧s.post enc P fn false true false false W args v W':=by
 have hW':=hW;obtain⟨p,q,hA,hV,rfl,hfz,hnd⟩:=hW;rw[hv]at hV;obtain⟨rfl,rfl⟩:=trodVars_none hV;have hlen:=Qtv hA
 have hs:s.fn H (ds++[])={ results:=[.lit (.bool true)],args:=ds }:=by
  rw[QH]; grind
 refine hcall.mono ?_;rintro e W' ⟨v,rfl,hr,hbel⟩;have hbel:=hbel.nil;obtain rfl:=Qw0.1 hr;simp only[QH]at hW';have hlt:∀p'∈p,p'.block<W.heap.size:=fun p' hp=>hW'.lt p' hp;refine⟨_,rfl,?_⟩;refine⟨ds,[],p,[],p,[],hW',?_,?_,?_,World.keptBut_mono (fun p' hp=>⟨hp,by simpa using hp⟩) (hbel.frame (·∈p)),fun h=>by cases h⟩
 ·rw[hs,hres]
  exact trodAll_mk1 (shut_bool hb _)
 ·rw[hs]
  exact Qm9 hlaid hread hA (fun x hx=>hbel.same (hlt x hx)) (fun x hx=>by grind)
 ·rw[hs,hv]
  rfl
end
end Gd

/- Plain facts on the functions that the texts are written with. -/
namespace Gd
open Go
theorem Q9{n:Int}(h0 : -9223372036854775808≤n)(h1:n<9223372036854775808):IntKind.wrap .i64 n=n:=by
 grind [IntKind.wrap,Int,IntKind.bits,IntKind.signed]
theorem Jo2{i:Nat}(h:i<maxLen):IntKind.wrap .i64 ((i:Int)+1)=((i+1:Nat):Int):=by
 rw[Nx]at h;rw[Q9 (by omega) (by omega)];omega
theorem Jkt{α:Type}{l:List α}{i:Nat}{x:α}(h:l[i]?=some x):idx l (i:Int)=some x:=by
 simp[idx,h]
end Gd

/- Types of data, abstract values, what they mean. -/
namespace Gx
open Go Go.RowKit Gd
inductive Wn(α:Type) where
 | mk (x:α) (ks:List (Wn α))
def Wn.x{α:Type}:Wn α→α
 | .mk x _=>x
def Wn.ks{α:Type}:Wn α→List (Wn α)
 | .mk _ ks=>ks
inductive Ty where
 | int (k:IntKind) | bool | str
 | sl (e:Ty) | arr (n:Nat) (e:Ty)
 | unit | pr (f r:Ty) | st (fs:Ty) | ref | rose (fs:Ty)
@[reducible] def Ty.i:Ty:=.int .i64
@[reducible] def Ty.De:Ty→Type
 | .int _=>Int | .bool=>Bool | .str=>Str
 | .sl e=>List e.De | .arr _ e=>List e.De
 | .unit=>Unit | .pr f r=>f.De×r.De | .st fs=>fs.De | .ref=>Unit | .rose fs=>Wn fs.De
def Ty.beq:Ty→Ty→Bool
 | .int a,.int b=>Qdz a b
 | .bool,.bool=>true
 | .str,.str=>true
 | .sl a,.sl b=>Ty.beq a b
 | .arr n a,.arr m b=>Nat.beq n m&&Ty.beq a b
 | .unit,.unit=>true
 | .pr a b,.pr c d=>Ty.beq a c&&Ty.beq b d
 | .st a,.st b=>Ty.beq a b
 | .ref,.ref=>true
 | .rose a,.rose b=>Ty.beq a b
 | _,_=>false
theorem Ty.beq_eq:∀{a b:Ty},Ty.beq a b=true→a=b
 | .int a,b,h=>by cases b<;>simp[Ty.beq]at h; rw[O6 h]
 | .bool,b,h=>by cases b<;>simp[Ty.beq]at h; rfl
 | .str,b,h=>by cases b<;>simp[Ty.beq]at h; rfl
 | .sl a,b,h=>by cases b<;>simp[Ty.beq]at h; rw[Ty.beq_eq h]
 | .arr n a,b,h=>by cases b<;>simp[Ty.beq]at h; rw[h.1,Ty.beq_eq h.2]
 | .unit,b,h=>by cases b<;>simp[Ty.beq]at h; rfl
 | .pr a c,b,h=>by cases b<;>simp[Ty.beq]at h; rw[Ty.beq_eq h.1,Ty.beq_eq h.2]
 | .st a,b,h=>by cases b<;>simp[Ty.beq]at h; rw[Ty.beq_eq h]
 | .ref,b,h=>by cases b<;>simp[Ty.beq]at h; rfl
 | .rose a,b,h=>by cases b<;>simp[Ty.beq]at h; rw[Ty.beq_eq h]
theorem Ty.beq_refl:∀a:Ty,Ty.beq a a=true
 | .int k=>by cases k<;>rfl
 | .bool=>rfl | .str=>rfl | .unit=>rfl
 | .sl a=>Ty.beq_refl a
 | .arr n a=>by simp[Ty.beq,Ty.beq_refl a,Nat.beq_refl]
 | .pr a b=>by simp[Ty.beq,Ty.beq_refl a,Ty.beq_refl b]
 | .st a=>Ty.beq_refl a
 | .ref=>rfl
 | .rose a=>Ty.beq_refl a
def Ty.cast(a b:Ty)(x:a.De):Option b.De:=if h:Ty.beq a b=true then some (Ty.beq_eq h▸x)else none
theorem Ty.cast_ok{a b:Ty}{x:a.De}{y:b.De}(h:Ty.cast a b x=some y):∃e:a=b,y=e▸x:=by
 grind [Ty.cast,Ty.beq_eq,Option.some.inj]
def J7o:RT Unit where
 size:=0
 agg:=true
 rep:=fun _ _ _ cs=>cs=[]
 len:=by grind
 one:=fun h=>by cases h
 flat:=by grind
 evo:=fun h _=>h
 weak:=fun h _=>h
def J1q{τ σ:Type}(r:RT τ)(s:RT σ):RT (τ×σ) where
 size:=r.size+s.size
 agg:=true
 rep:=fun ok w x cs=>∃c1 c2,cs=c1++c2∧r.rep ok w x.1 c1∧s.rep ok w x.2 c2
 len:=by rintro _ _ x cs ⟨c1,c2,rfl,h1,h2⟩; simp[r.len h1,s.len h2]
 one:=fun h=>by cases h
 flat:=by
  rintro _ _ x cs ⟨c1,c2,rfl,h1,h2⟩ c hc;rcases QZ.1 hc with hc | hc
  ·exact r.flat h1 c hc
  ·exact s.flat h2 c hc
 evo:=by rintro _ _ _ x cs ⟨c1,c2,rfl,h1,h2⟩ he; exact⟨c1,c2,rfl,r.evo h1 he,s.evo h2 he⟩
 weak:=by rintro _ _ _ x cs ⟨c1,c2,rfl,h1,h2⟩ he; exact⟨c1,c2,rfl,r.weak h1 he,s.weak h2 he⟩
def J5t{τ:Type}(r:RT τ):RT τ where
 size:=r.size
 agg:=true
 rep:=r.rep
 len:=r.len
 one:=fun h=>by cases h
 flat:=r.flat
 evo:=r.evo
 weak:=r.weak
def J7p:RT Unit where
 size:=1
 agg:=false
 rep:=fun _ _ _ cs=>cs=[.slice none 0 0]
 len:=fun h=>by subst h; rfl
 one:=fun _=>rfl
 flat:=fun h=>by subst h; simp; rfl
 evo:=fun h _=>h
 weak:=fun h _=>h
def J5u{τ:Type}(r:RT τ):RT (Wn τ) where
 size:=r.size+1
 agg:=true
 rep:=fun _ _ _ _=>False
 len:=fun h=>h.elim
 one:=fun h=>by cases h
 flat:=fun h=>h.elim
 evo:=fun h _=>h
 weak:=fun h _=>h
def J5v{τ:Type}(r:RT τ)(k:RT (Wn τ)):RT (Wn τ) where
 size:=r.size+1
 agg:=true
 rep:=fun ok w x cs=>∃c1 c2,cs=c1++c2∧r.rep ok w x.x c1∧(rSl k).rep ok w x.ks c2
 len:=by rintro _ _ x cs ⟨c1,c2,rfl,h1,h2⟩; simp[r.len h1,(rSl k).len h2,rSl]
 one:=fun h=>by cases h
 flat:=by
  rintro _ _ x cs ⟨c1,c2,rfl,h1,h2⟩ c hc;rcases QZ.1 hc with hc | hc
  ·exact r.flat h1 c hc
  ·exact(rSl k).flat h2 c hc
 evo:=by rintro _ _ _ x cs ⟨c1,c2,rfl,h1,h2⟩ he; exact⟨c1,c2,rfl,r.evo h1 he,(rSl k).evo h2 he⟩
 weak:=by rintro _ _ _ x cs ⟨c1,c2,rfl,h1,h2⟩ he; exact⟨c1,c2,rfl,r.weak h1 he,(rSl k).weak h2 he⟩
def Rh{τ:Type}(r:RT τ):Nat→RT (Wn τ)
 | 0=>J5u r
 | n+1=>J5v r (Rh r n)
theorem O8{τ:Type}(r:RT τ):∀n,(Rh r n).size=r.size+1
 | 0=>rfl
 | _+1=>rfl
theorem Qxd{τ:Type}{r s:RT τ}{ok:Ok}{w:World}(hs:r.size=s.size)(h:∀{x cs},r.rep ok w x cs→s.rep ok w x cs){xs:List τ}{cs:List Value}:(rSl r).rep ok w xs cs→(rSl s).rep ok w xs cs:=by
 rintro⟨v,rfl,A,n,c,rfl,hl,hc,hn⟩;refine⟨_,rfl,A,n,c,rfl,hl,hc,fun h0=>?_⟩;grind
theorem Qtw{τ:Type}(r:RT τ){ok:Ok}{w:World}:∀(n:Nat) {x:Wn τ} {cs:List Value},(Rh r n).rep ok w x cs→(Rh r (n+1)).rep ok w x cs
 | 0,_,_,h=>h.elim
 | n+1,x,cs,⟨c1,c2,e,h1,h2⟩=>⟨c1,c2,e,h1,Qxd (by rw[O8,O8]) (Qtw r n) h2⟩
theorem Jo3{τ:Type}(r:RT τ){ok:Ok}{w:World}{n m:Nat}(h:n≤m){x:Wn τ}{cs:List Value}(hx:(Rh r n).rep ok w x cs):(Rh r m).rep ok w x cs:=by
 induction h with
 | refl=>exact hx
 | step _ ih=>exact Qtw r _ ih
def Qtx{τ:Type}(r:RT τ):RT (Wn τ) where
 size:=r.size+1
 agg:=true
 rep:=fun ok w x cs=>∃n,(Rh r n).rep ok w x cs
 len:=by rintro _ _ x cs ⟨n,h⟩; rw[(Rh r n).len h,O8]
 one:=fun h=>by cases h
 flat:=by rintro _ _ x cs ⟨n,h⟩; exact(Rh r n).flat h
 evo:=by rintro _ _ _ x cs ⟨n,h⟩ he; exact⟨n,(Rh r n).evo h he⟩
 weak:=by rintro _ _ _ x cs ⟨n,h⟩ he; exact⟨n,(Rh r n).weak h he⟩
theorem Jo4{τ:Type}{r:RT τ}{ok:Ok}{w:World}{x:Wn τ}{cs:List Value}(h:(Qtx r).rep ok w x cs):∃c1 c2,cs=c1++c2∧r.rep ok w x.x c1∧(rSl (Qtx r)).rep ok w x.ks c2:=by
 obtain⟨n,h⟩:=h;cases n with
 | zero=>exact h.elim
 | succ n =>
  obtain⟨c1,c2,e,h1,h2⟩:=h;exact⟨c1,c2,e,h1,Qxd (s:=Qtx r) (O8 r n) (fun h=>⟨n,h⟩) h2⟩
theorem Jbc{τ:Type}{r:RT τ}{ok:Ok}{w:World}{x:τ}{ks:List (Wn τ)}{c1 c2:List Value}(h1:r.rep ok w x c1)(h2:(rSl (Qtx r)).rep ok w ks c2):(Qtx r).rep ok w (.mk x ks) (c1++c2):=by
 obtain⟨v,rfl,A,n,c,rfl,hl,hc,hn⟩:=h2;rcases Nat.eq_zero_or_pos n with h0 | h0
 ·subst h0
  refine⟨1,c1,_,rfl,h1,_,rfl,A,0,c,rfl,hl,hc,fun h=>absurd h (by omega)⟩
 ·obtain⟨b,o,hA,hx⟩:=hn h0
  have key2:∀(k:Nat),∃m,∀(i:Nat) (y:Wn τ),i<k→ks[i]?=some y→∃cs,(Rh r m).rep ok w y cs∧Ox ok w b (o+i*(Qtx r).size) cs:=by
   intro k
   induction k with
   | zero=>simp_all
   | succ k ih =>
    obtain⟨m,hm⟩:=ih;cases hk:ks[k]? with
    | none =>
     refine⟨m,fun i y hi hy=>?_⟩;grind
    | some z =>
     obtain⟨cs,⟨m2,h3⟩,h4⟩:=hx k z hk;refine⟨max m m2,fun i y hi hy=>?_⟩;grind [Nat.lt_or_ge,Jo3,Nat.le_max_left,Nat.le_max_right]
  obtain⟨m,hm⟩:=key2 ks.length;refine⟨m+1,c1,_,rfl,h1,_,rfl,A,n,c,rfl,hl,hc,fun _=>⟨b,o,hA,fun i y hy=>?_⟩⟩;obtain⟨cs,h5,h6⟩:=hm i y (List.getElem?_eq_some_iff.1 hy).1 hy;exact⟨cs,h5,by rw[O8]; exact h6⟩
def rt:(t:Ty)→RT t.De
 | .int k=>Qfo k
 | .bool=>Q2v
 | .str=>J5r
 | .sl e=>rSl (rt e)
 | .arr n e=>Jsz n (rt e)
 | .unit=>J7o
 | .pr f r=>J1q (rt f) (rt r)
 | .st fs=>J5t (rt fs)
 | .ref=>J7p
 | .rose fs=>Qtx (rt fs)
def Ty.size:Ty→Nat
 | .int _=>1 | .bool=>1 | .str=>1 | .sl _=>1
 | .arr n e=>n*e.size
 | .unit=>0 | .pr f r=>f.size+r.size | .st fs=>fs.size | .ref=>1 | .rose fs=>fs.size+1
def Ty.agg:Ty→Bool
 | .int _=>false | .bool=>false | .str=>false | .sl _=>false
 | .arr _ _=>true
 | .unit=>true | .pr _ _=>true | .st _=>true | .ref=>false | .rose _=>true
theorem Jo:∀t:Ty,(rt t).size=t.size
 | .int _=>rfl | .bool=>rfl | .str=>rfl | .sl _=>rfl
 | .arr n e=>by simp[rt,Jsz,Ty.size,Jo e]
 | .unit=>rfl
 | .pr f r=>by simp[rt,J1q,Ty.size,Jo f,Jo r]
 | .st fs=>by simp[rt,J5t,Ty.size,Jo fs]
 | .ref=>rfl
 | .rose fs=>by simp[rt,Qtx,Ty.size,Jo fs]
theorem Tq:∀t:Ty,(rt t).agg=t.agg
 | .int _=>rfl | .bool=>rfl | .str=>rfl | .sl _=>rfl | .arr _ _=>rfl | .unit=>rfl | .pr _ _=>rfl | .st _=>rfl | .ref=>rfl | .rose _=>rfl
inductive PS where
 | f (k off:Nat) | i (j:Int) (size:Nat)
def PS.off:PS→Nat
 | .f _ o=>o | .i j s=>j.toNat*s
def Yx:List PS→Nat
 | []=>0
 | p::l=>p.off+Yx l
inductive AV where
 | d (t:Ty) (x:t.De)
 | p (id:Nat) (path:List PS)
 | e (id:Nat) (path:List PS)
 | s (id:Nat)
 | m (id:Nat)
 | b (id:Nat)
 | w (id:Nat) (j n:Int)
 | a (t:Ty) (x:t.De)
 | z | ns | np | nm | nf
 | f (fn:FuncId) (caps:AV)
 | ag (l:AV)
 | tp (l:AV)
 | nil
 | cons (x r:AV)
def AV.isAgg:AV→Bool
 | .d t _=>t.agg
 | .ag _=>true
 | _=>false
def AV.val(x:AV)(cs:List Value):Value:=bif x.isAgg then .agg cs.toArray else cs.headD undef
def AV.size:AV→Nat
 | .d t _=>t.size
 | .ag l=>l.size
 | .nil=>0
 | .cons x r=>x.size+r.size
 | _=>1
def AV.inMem:AV→Bool
 | .tp _=>false
 | .f _ _=>true
 | .ag l=>l.inMem
 | .cons x r=>x.inMem&&r.inMem
 | _=>true
def zal(v u:Value):Prop:=v=u∨(u=.slice none 0 0∧∃A,v=.slice A 0 0)
theorem zal.form{v u:Value}(h:zal v u)(hu:∃A n c,u=.slice A n c):∃A n c,v=.slice A n c:=by
 rcases h with rfl | ⟨_,A,rfl⟩
 ·exact hu
 grind
section
variable (β:Nat→Nat) (ρ:Nat→Value) (ok:Ok) (w:World)
def cr:Bool→AV→List Value→Prop
 | _,.d t x,cs=>(rt t).rep ok w x cs
 | _,.p id path,cs=>cs=[.pointer (some ⟨β id,Yx path,none⟩)]
 | _,.e id path,cs=>∃g,(ρ id).ownBlock=some g∧cs=[.pointer (some ⟨g,Yx path,none⟩)]
 | _,.s id,cs=>(∃v,cs=[v]∧zal v (ρ id))∧∃A n c,ρ id=.slice A n c
 | _,.m id,cs=>cs=[.map (some (β id))]
 | _,.b id,cs=>cs=[.int .i64 (β id)]
 | _,.w id j n,cs=>∃A c,cs=[.slice (some A) n.toNat c]∧(0<n.toNat→A=⟨β id,j.toNat,none⟩)
 | _,.a t x,cs=>∃v,cs=[v]∧Qwz (rt t) ok w x v
 | _,.z,cs=>∃A,cs=[.slice A 0 0]
 | _,.ns,cs=>cs=[.slice none 0 0]
 | _,.np,cs=>cs=[.pointer none]
 | _,.nm,cs=>cs=[.map none]
 | _,.nf,cs=>cs=[.nilFunc]
 | _,.f fn caps,cs=>∃vs,cs=[.func (.func fn) #[] vs.toArray]∧cr true caps vs
 | _,.ag l,cs=>cr false l cs
 | _,.tp l,cs=>∃vs,cs=[.tuple vs.toArray]∧cr true l vs
 | _,.nil,cs=>cs=[]
 | true,.cons x r,cs=>∃c1 vs,cs=x.val c1::vs∧cr false x c1∧cr true r vs
 | false,.cons x r,cs=>∃c1 c2,cs=c1++c2∧cr false x c1∧cr false r c2
end
section
variable {β:Nat→Nat} {ρ:Nat→Value} {ok ok':Ok} {w w':World}
theorem Tr:∀{m:Bool} {x:AV} {cs:List Value},cr β ρ ok w m x cs→Evo ok w w'→cr β ρ ok w' m x cs
 | m,.d t x,cs,h,he=>by cases m<;>exact(rt t).evo h he
 | m,.p ..,cs,h,he=>by cases m<;>exact h
 | m,.e ..,cs,h,he=>by cases m<;>exact h
 | m,.s _,cs,h,he=>by cases m<;>exact h
 | m,.m _,cs,h,he=>by cases m<;>exact h
 | m,.b _,cs,h,he=>by cases m<;>exact h
 | m,.w ..,cs,h,he=>by cases m<;>exact h
 | m,.a t x,cs,h,he=>by cases m<;>exact let⟨v,h1,h2⟩:=h; ⟨v,h1,h2.evo he⟩
 | m,.z,cs,h,he=>by cases m<;>exact h
 | m,.ns,cs,h,he=>by cases m<;>exact h
 | m,.np,cs,h,he=>by cases m<;>exact h
 | m,.nm,cs,h,he=>by cases m<;>exact h
 | m,.nf,cs,h,he=>by cases m<;>exact h
 | m,.f fn caps,cs,h,he=>by cases m<;>exact let⟨vs,h1,h2⟩:=h; ⟨vs,h1,Tr h2 he⟩
 | m,.ag l,cs,h,he=>by cases m<;>exact Tr (m:=false) (x:=l) h he
 | m,.tp l,cs,h,he=>by cases m<;>exact let⟨vs,h1,h2⟩:=h; ⟨vs,h1,Tr h2 he⟩
 | m,.nil,cs,h,he=>by cases m<;>exact h
 | true,.cons x r,cs,h,he=>let⟨c1,vs,h1,h2,h3⟩:=h; ⟨c1,vs,h1,Tr h2 he,Tr h3 he⟩
 | false,.cons x r,cs,h,he=>let⟨c1,vs,h1,h2,h3⟩:=h; ⟨c1,vs,h1,Tr h2 he,Tr h3 he⟩
theorem Hr:∀{m:Bool} {x:AV} {cs:List Value},cr β ρ ok w m x cs→(∀b o,ok b o→ok' b o)→cr β ρ ok' w m x cs
 | m,.d t x,cs,h,he=>by cases m<;>exact(rt t).weak h he
 | m,.p ..,cs,h,he=>by cases m<;>exact h
 | m,.e ..,cs,h,he=>by cases m<;>exact h
 | m,.s _,cs,h,he=>by cases m<;>exact h
 | m,.m _,cs,h,he=>by cases m<;>exact h
 | m,.b _,cs,h,he=>by cases m<;>exact h
 | m,.w ..,cs,h,he=>by cases m<;>exact h
 | m,.a t x,cs,h,he=>by cases m<;>exact let⟨v,h1,h2⟩:=h; ⟨v,h1,h2.weak he⟩
 | m,.z,cs,h,he=>by cases m<;>exact h
 | m,.ns,cs,h,he=>by cases m<;>exact h
 | m,.np,cs,h,he=>by cases m<;>exact h
 | m,.nm,cs,h,he=>by cases m<;>exact h
 | m,.nf,cs,h,he=>by cases m<;>exact h
 | m,.f fn caps,cs,h,he=>by cases m<;>exact let⟨vs,h1,h2⟩:=h; ⟨vs,h1,Hr h2 he⟩
 | m,.ag l,cs,h,he=>by cases m<;>exact Hr (m:=false) (x:=l) h he
 | m,.tp l,cs,h,he=>by cases m<;>exact let⟨vs,h1,h2⟩:=h; ⟨vs,h1,Hr h2 he⟩
 | m,.nil,cs,h,he=>by cases m<;>exact h
 | true,.cons x r,cs,h,he=>let⟨c1,vs,h1,h2,h3⟩:=h; ⟨c1,vs,h1,Hr h2 he,Hr h3 he⟩
 | false,.cons x r,cs,h,he=>let⟨c1,vs,h1,h2,h3⟩:=h; ⟨c1,vs,h1,Hr h2 he,Hr h3 he⟩
theorem Kk:∀{x:AV} {cs:List Value},cr β ρ ok w false x cs→cs.length=x.size
 | .d t x,cs,h=>by rw[AV.size,←Jo]; exact(rt t).len h
 | .p ..,cs,h=>by subst h; rfl
 | .e ..,cs,⟨_,_,h⟩=>by subst h; rfl
 | .s _,cs,⟨⟨_,h,_⟩,_⟩=>by subst h; rfl
 | .m _,cs,h=>by subst h; rfl
 | .b _,cs,h=>by subst h; rfl
 | .w ..,cs,⟨_,_,h,_⟩=>by subst h; rfl
 | .a t x,cs,⟨_,h,_⟩=>by subst h; rfl
 | .z,cs,⟨_,h⟩=>by subst h; rfl
 | .ns,cs,h=>by subst h; rfl
 | .np,cs,h=>by subst h; rfl
 | .nm,cs,h=>by subst h; rfl
 | .nf,cs,h=>by subst h; rfl
 | .f ..,cs,⟨_,h,_⟩=>by subst h; rfl
 | .ag l,cs,h=>by rw[AV.size]; exact Kk (x:=l) h
 | .tp l,cs,⟨_,h,_⟩=>by subst h; rfl
 | .nil,cs,h=>by subst h; rfl
 | .cons x r,cs,⟨c1,c2,h,h1,h2⟩=>by subst h; rw[List.length_append,Kk h1,Kk h2]; rfl
theorem Qfr:∀{x:AV} {cs:List Value},cr β ρ ok w false x cs→x.inMem=true→∀c∈cs,c.oneCell'=true
 | .d t x,cs,h,_=>(rt t).flat h
 | .p ..,cs,h,_=>by subst h; simp; rfl
 | .e ..,cs,⟨_,_,h⟩,_=>by subst h; simp; rfl
 | .s id,cs,⟨⟨v,h,hz⟩,hs⟩,_=>by
  subst h; obtain⟨A,n,c,rfl⟩:=hz.form hs;intro c hc; simp at hc; subst hc; rfl
 | .m _,cs,h,_=>by subst h; simp; rfl
 | .b _,cs,h,_=>by subst h; simp; rfl
 | .w ..,cs,⟨_,_,h,_⟩,_=>by subst h; simp; rfl
 | .a t x,cs,⟨v,h,hv⟩,_=>by obtain⟨b,o,c,rfl,_⟩:=hv; subst h; simp; rfl
 | .z,cs,⟨_,h⟩,_=>by subst h; simp; rfl
 | .ns,cs,h,_=>by subst h; simp; rfl
 | .np,cs,h,_=>by subst h; simp; rfl
 | .nm,cs,h,_=>by subst h; simp; rfl
 | .nf,cs,h,_=>by subst h; simp; rfl
 | .f ..,cs,⟨_,h,_⟩,_=>by subst h; simp; rfl
 | .ag l,cs,h,hm=>Qfr (x:=l) h hm
 | .tp l,cs,_,hm=>by cases hm
 | .nil,cs,h,_=>by subst h; simp
 | .cons x r,cs,⟨c1,c2,h,h1,h2⟩,hm=>by
  simp only[AV.inMem,QQ]at hm;subst h;intro c hc;rcases QZ.1 hc with hc | hc
  ·exact Qfr h1 hm.1 c hc
  ·exact Qfr h2 hm.2 c hc
theorem J5w{x:AV}{cs:List Value}(h:cr β ρ ok w false x cs)(ha:x.isAgg=false)(hn:x.size=1):∃c,cs=[c]:=by
 have:=Kk h;rw[hn]at this
 match cs,this with
 | [c],_=>exact⟨c,rfl⟩
theorem Jta:∀{t:Ty},t.agg=false→t.size=1
 | .int _,_=>rfl | .bool,_=>rfl | .str,_=>rfl | .sl _,_=>rfl | .ref,_=>rfl
def AV.isVal:AV→Bool
 | .nil=>false
 | .cons _ _=>false
 | .d t _=>true
 | _=>true
theorem Qbw{x:AV}{cs:List Value}(h:cr β ρ ok w false x cs)(hv:x.isVal=true)(hm:x.inMem=true):Q4 (x.val cs)=cs:=by
 unfold AV.val;cases ha:x.isAgg with
 | true=>simp[Q4]
 | false =>
  have hsz:x.size=1:=by
   cases x<;>first | rfl | (simp[AV.isAgg]at ha; done) | (simp[AV.isVal]at hv; done) | skip
   ·exact Jta ha
  obtain⟨c,rfl⟩:=J5w h ha hsz;have:=Qfr h hm c (.head _);simp only[cond_false,List.headD_cons];cases c<;>first | rfl | grind [Value.oneCell']
theorem Jbd{t:Ty}{x:t.De}{cs:List Value}:(AV.d t x).val cs=(rt t).val cs:=by
 grind [AV.val,AV.isAgg,RT.val,Tq]
theorem Jo5{t:Ty}{x:t.De}{cs:List Value}(h:cr β ρ ok w false (.d t x) cs):isV (rt t) ok w x ((AV.d t x).val cs):=⟨cs,h,Jbd⟩
theorem Qlr{t:Ty}{x:t.De}{v:Value}(h:isV (rt t) ok w x v):∃cs,cr β ρ ok w false (.d t x) cs∧v=(AV.d t x).val cs:=by
 obtain⟨cs,hr,rfl⟩:=h;exact⟨cs,hr,Jbd.symm⟩
end
end Gx

/- Abstract states. -/
namespace Gx
open Go Go.RowKit Gd
inductive CK where
 | sl (e:TypeId) (u:Ty)
 | mp (k v:Ty)
@[reducible] def CK.ty:CK→Ty
 | .sl _ u=>.sl u
 | .mp k v=>.sl (.pr k v)
inductive Ob where
 | var (tid:TypeId) (c:AV)
 | row (e:TypeId) (t:Ty) (xs:List t.De)
 | tail (e:TypeId) (t:Ty) (xs:List t.De)
 | map (k v:Ty) (xs:List (k.De×v.De))
 | mapC (k:Ty) (c:CK) (xs:List (k.De×c.ty.De)) (hole:Option (k.De×Nat))
def Qxe(β:Nat→Nat)(ρ:Nat→Value)(g:Nat)(tid:TypeId)(c:AV):TL where
 blks:=fun b=>b=g
 cov:=fun b _=>b=g
 cb:=fun h=>h
 p:=fun ok w=>∃cs,w.heap[g]?=some (.cells cs.toArray tid (0,0))∧cr β ρ ok w false c cs
 keep:=fun⟨cs,h1,h2⟩ hb he=>⟨cs,by rw[hb _ rfl]; exact h1,Tr h2 he⟩
 weak:=fun⟨cs,h1,h2⟩ hk=>⟨cs,h1,Hr h2 hk⟩
 lt:=fun⟨_,h,_⟩ b hb=>by grind
def Qi5{τ:Type}(v:Value)(e:Nat)(r:RT τ)(xs:List τ):TL where
 blks:=fun g=>v.ownBlock=some g
 cov:=fun b o=>v.ownBlock=some b∧Gj v*r.size≤o
 cb:=fun h=>h.1
 p:=fun ok w=>isV (rSl r) ok w xs v∧∃ys,w.ownsRowS 0 e r.size v (Gj v) ys
 keep:=fun⟨h1,ys,h⟩ hb he=>⟨h1.evo he,ys,Qfq h hb⟩
 weak:=fun⟨h1,h⟩ hk=>⟨h1.weak hk,h⟩
 lt:=fun⟨_,_,h⟩ g hg=>(h.lt g hg).2
def Ri{κ ν:Type}(r:RT κ)(s:RT ν)(ok:Ok)(w:World):List (κ×ν)→List MapEntry→Prop
 | [],es=>es=[]
 | x::xs,es=>∃e es',es=e::es'∧isV r ok w x.1 e.key∧isV s ok w x.2 e.val∧Ri r s ok w xs es'
theorem Qd2{κ ν:Type}{r:RT κ}{s:RT ν}{ok:Ok}{w w':World}:∀{xs:List (κ×ν)} {es:List MapEntry},Ri r s ok w xs es→Evo ok w w'→Ri r s ok w' xs es
 | [],_,h,_=>h
 | x::xs,es,⟨e,es',h,h1,h2,h3⟩,he=>⟨e,es',h,h1.evo he,h2.evo he,Qd2 h3 he⟩
theorem Fv{κ ν:Type}{r:RT κ}{s:RT ν}{ok ok':Ok}{w:World}:∀{xs:List (κ×ν)} {es:List MapEntry},Ri r s ok w xs es→(∀b o,ok b o→ok' b o)→Ri r s ok' w xs es
 | [],_,h,_=>h
 | x::xs,es,⟨e,es',h,h1,h2,h3⟩,he=>⟨e,es',h,h1.weak he,h2.weak he,Fv h3 he⟩
def Qpp{κ ν:Type}(g:Nat)(r:RT κ)(s:RT ν)(xs:List (κ×ν)):TL where
 blks:=fun b=>b=g
 cov:=fun b _=>b=g
 cb:=fun h=>h
 p:=fun ok w=>∃es clock,w.heap[g]?=some (.map es clock)∧Ri r s ok w xs es.toList∧(xs.map Prod.fst).Nodup∧(es.toList.map MapEntry.born).Nodup∧∀e∈es.toList,e.born<clock
 keep:=fun⟨es,c,h1,h2,h3⟩ hb he=>⟨es,c,by rw[hb _ rfl]; exact h1,Qd2 h2 he,h3⟩
 weak:=fun⟨es,c,h1,h2,h3⟩ hk=>⟨es,c,h1,Fv h2 hk,h3⟩
 lt:=fun⟨_,_,h,_⟩ b hb=>by grind
def Wa:Value→Option Nat
 | .map o=>o
 | v=>v.ownBlock
theorem Qi6{w:World}{base:Nat}{e:TypeId}{size n:Nat}{v:Value}{xs:List Value}(h:w.ownsRowS base e size v n xs){b:Nat}:v.ownBlock=some b↔Wa v=some b:=by
 rcases h.2 with⟨rfl,_⟩ | ⟨g,cap,cur,fz,rfl,_⟩<;>exact Iff.rfl
def Qh8:(c:CK)→Value→c.ty.De→TL
  | .sl e u,v,x=>ml v e (rt u) x
  | .mp k v0,v,x=>{ Qpp ((Wa v).getD 0) (rt k) (rt v0) x with
      blks:=fun b=>Wa v=some b
      cov:=fun b _=>Wa v=some b
      cb:=fun h=>h
      p:=fun ok w=>∃g,v=.map (some g)∧(Qpp g (rt k) (rt v0) x).p ok w
      keep:=fun⟨g,h1,h2⟩ hb he=>⟨g,h1,(Qpp g (rt k) (rt v0) x).keep h2 (fun b hg=>hb b (by subst hg; rw[h1]; rfl)) he⟩
      weak:=fun⟨g,h1,h2⟩ hk=>⟨g,h1,(Qpp g (rt k) (rt v0) x).weak h2 hk⟩
      lt:=fun⟨g,h1,h2⟩ b hb=>(Qpp g (rt k) (rt v0) x).lt h2 b (by rw[h1]at hb; injection hb with hb; exact hb.symm) }
theorem Jbe{c:CK}{v:Value}{x:c.ty.De}{ok:Ok}{w:World}(h:(Qh8 c v x).p ok w){b:Nat}:(Qh8 c v x).blks b↔Wa v=some b:=by
 cases c with
 | sl e u =>
  obtain⟨_,cs,h2,_⟩:=h;exact Qi6 h2
 | mp k v0=>exact Iff.rfl
def Jze:RT Value where
 size:=1
 agg:=false
 rep:=fun _ _ x cs=>cs=[x]∧x.oneCell'=true
 len:=fun h=>by rw[h.1]; rfl
 one:=fun _=>rfl
 flat:=fun h c hc=>by rw[h.1]at hc; grind
 evo:=fun h _=>h
 weak:=fun h _=>h
def Ny{κ:Type}(c:CK)(hole:Option κ)(hv:Value)(ok:Ok)(w:World):List (κ×c.ty.De)→List (κ×Value)→List Value→Prop
 | [],[],[]=>True
 | x::xs,y::ys,v::vs=>x.1=y.1∧((hole=some x.1∧v=undef∧zal y.2 hv)∨(hole≠some x.1∧zal y.2 v∧(Qh8 c v x.2).p ok w))∧Ny c hole hv ok w xs ys vs
 | _,_,_=>False
section
variable {κ:Type} {c:CK} {hole:Option κ} {hv:Value} {ok ok':Ok} {w w':World}
theorem Qxf:∀{xs:List (κ×c.ty.De)} {ys:List (κ×Value)} {vs:List Value},Ny c hole hv ok w xs ys vs→(∀v∈vs,∀b,Wa v=some b→w'.heap[b]?=w.heap[b]?)→Evo ok w w'→Ny c hole hv ok w' xs ys vs
 | [],[],[],h,_,_=>h
 | x::xs,y::ys,v::vs,⟨h1,h2,h3⟩,hb,he=>⟨h1,h2.imp id fun⟨q1,q2,q3⟩=>⟨q1,q2,(Qh8 c v x.2).keep q3 (fun b hg=>hb v (.head _) b ((Jbe q3).1 hg)) he⟩,Qxf h3 (fun v hv=>hb v (.tail _ hv)) he⟩
 | [],[],_::_,h,_,_=>h.elim
 | [],_::_,_,h,_,_=>h.elim
 | _::_,[],_,h,_,_=>h.elim
 | _::_,_::_,[],h,_,_=>h.elim
theorem Qd3:∀{xs:List (κ×c.ty.De)} {ys:List (κ×Value)} {vs:List Value},Ny c hole hv ok w xs ys vs→(∀b o,ok b o→ok' b o)→Ny c hole hv ok' w xs ys vs
 | [],[],[],h,_=>h
 | x::xs,y::ys,v::vs,⟨h1,h2,h3⟩,hk=>⟨h1,h2.imp id fun⟨q1,q2,q3⟩=>⟨q1,q2,(Qh8 c v x.2).weak q3 hk⟩,Qd3 h3 hk⟩
 | [],[],_::_,h,_=>h.elim
 | [],_::_,_,h,_=>h.elim
 | _::_,[],_,h,_=>h.elim
 | _::_,_::_,[],h,_=>h.elim
theorem Jku:∀{xs:List (κ×c.ty.De)} {ys:List (κ×Value)} {vs:List Value},Ny c hole hv ok w xs ys vs→∀v∈vs,∀b,Wa v=some b→b<w.heap.size
 | [],[],[],h=>by simp
 | x::xs,y::ys,v::vs,⟨h1,h2,h3⟩=>by
  intro y hy b hb;rcases QX.1 hy with rfl | hy
  ·rcases h2 with⟨_,rfl,_⟩ | ⟨_,_,q3⟩
   ·cases hb
   ·exact(Qh8 c y x.2).lt q3 b ((Jbe q3).2 hb)
  ·exact Jku h3 y hy b hb
 | [],[],_::_,h=>h.elim
 | [],_::_,_,h=>h.elim
 | _::_,[],_,h=>h.elim
 | _::_,_::_,[],h=>h.elim
end
def Qfs:Value→List Value
 | .tuple vs=>vs.toList
 | _=>[]
abbrev Qpq(vs:List Value):Prop:=vs.Pairwise fun a b=>∀g,Wa a=some g→Wa b≠some g
def Jtb{κ:Type}(g:Nat)(r:RT κ)(c:CK)(vs:List Value)(xs:List (κ×c.ty.De))(hole:Option κ)(hv:Value)(ok:Ok)(w:World):Prop :=
 ∃ys,(∃es clock,w.heap[g]?=some (.map es clock)∧Ri r Jze ok w ys es.toList∧(es.toList.map MapEntry.born).Nodup∧∀e∈es.toList,e.born<clock)∧Ny c hole hv ok w xs ys vs∧(xs.map Prod.fst).Nodup∧Qpq vs∧(∀v∈vs,Wa v≠some g)∧∀k,hole=some k→k∉xs.map Prod.fst→hv=.slice none 0 0
def Jtc(g:Nat)(vs:List Value){κ:Type}(r:RT κ)(c:CK)(xs:List (κ×c.ty.De))(hole:Option κ)(hv:Value):TL where
 blks:=fun b=>b=g∨∃v∈vs,Wa v=some b
 cov:=fun b _=>b=g∨∃v∈vs,Wa v=some b
 cb:=fun h=>h
 p:=fun ok w=>Jtb g r c vs xs hole hv ok w
 keep:=fun⟨ys,⟨es,cl,h1,h2,h3⟩,h4,h5⟩ hb he=>⟨ys,⟨es,cl,by rw[hb _ (.inl rfl)]; exact h1,Qd2 h2 he,h3⟩,Qxf h4 (fun v hv b hvb=>hb b (.inr ⟨v,hv,hvb⟩)) he,h5⟩
 weak:=fun⟨ys,⟨es,cl,h1,h2,h3⟩,h4,h5⟩ hk=>⟨ys,⟨es,cl,h1,Fv h2 hk,h3⟩,Qd3 h4 hk,h5⟩
 lt:=fun⟨_,⟨_,_,h,_⟩,h2,_⟩ b hb=>by
  rcases hb with rfl | ⟨v,hv,hb⟩
  ·exact Uc h
  ·exact Jku h2 v hv b hb
def Tt{k:Ty}(β:Nat→Nat)(ρ:Nat→Value)(c:CK)(hole:Option (k.De×Nat)):Value:=match hole with
 | some q=>(match c with
  | .sl _ _=>ρ q.2
  | .mp _ _=>.map (some (β q.2)))
 | none=>undef
def Jbf{k:Ty}(hole:Option (k.De×Nat)):Option k.De:=match hole with
 | some q=>some q.1
 | none=>none
def Jb(β:Nat→Nat)(ρ:Nat→Value)(id:Nat):Ob→TL
 | .var tid c=>Qxe β ρ (β id) tid c
 | .row e t xs=>ml (ρ id) e (rt t) xs
 | .tail e t xs=>Qi5 (ρ id) e (rt t) xs
 | .map k v xs=>Qpp (β id) (rt k) (rt v) xs
 | .mapC k c xs hole=>Jtc (β id) (Qfs (ρ id)) (rt k) c xs (Jbf hole) (Tt β ρ c hole)
abbrev V5:=List (Nat×Bool)
structure En where
 t:Nat
 cs:V5
 av:AV
structure St where
 env:List En
 mem:List (Nat×Ob)
def J6(a:Act)(cs:V5):Prop:=∀c∈cs,a.tmps[c.1]?=some (.bool c.2)
def rd(a:Act)(t:Nat):Option Value:=bif Nat.blt t 100000 then a.tmps[t]? else some (.pointer (some ⟨t - 100000,0,none⟩))
theorem Qbx{a:Act}{t:Nat}(h:Nat.blt t 100000=true):rd a t=a.tmps[t]?:=by grind [rd]
def enD(β:Nat→Nat)(ρ:Nat→Value)(a:Act)(e:En):DF where
 p:=fun ok w=>(J6 a e.cs→∃cs,rd a e.t=some (e.av.val cs)∧cr β ρ ok w false e.av cs)∧(J6 a e.cs∨rd a e.t=some undef)
 evo:=fun h he=>⟨fun hc=>let⟨cs,h1,h2⟩:=h.1 hc; ⟨cs,h1,Tr h2 he⟩,h.2⟩
 weak:=fun h hk=>⟨fun hc=>let⟨cs,h1,h2⟩:=h.1 hc; ⟨cs,h1,Hr h2 hk⟩,h.2⟩
abbrev Qq(β:Nat→Nat)(ρ:Nat→Value)(mem:List (Nat×Ob)):List TL:=mem.map fun q=>Jb β ρ q.1 q.2
abbrev okR(X:Cx)(β:Nat→Nat)(ρ:Nat→Value)(mem:List (Nat×Ob))(w:World):Ok:=Jr X.ok X.w.heap.size (fun _=>0) [] (Qq β ρ mem) w
def Rel(X:Cx)(β:Nat→Nat)(ρ:Nat→Value)(S:St)(a:Act)(w:World):Prop :=
 Sb (fun _=>0) X [] (S.env.map (enD β ρ a)) [] (Qq β ρ S.mem) a w
def Qrr:List En→Nat→Option En
 | [],_=>none
 | e::l,t=>bif Nat.beq e.t t then some e else Qrr l t
theorem Qrs{l:List En}{t:Nat}{e:En}(h:Qrr l t=some e):e∈l∧e.t=t:=by
 induction l with
 | nil=>simp[Qrr]at h
 | cons x l ih =>
  simp only[Qrr]at h;cases hb:Nat.beq x.t t with
  | true=>rw[hb]at h; simp_all
  | false=>rw[hb]at h; grind
def Wo(l:List En)(t:Nat):Option En:=bif Nat.blt t 100000 then Qrr l t else none
theorem Qi7{l:List En}{t:Nat}{e:En}(h:Wo l t=some e):Nat.blt t 100000=true:=by
 grind [Wo,Nat.blt]
theorem Kl{l:List En}{t:Nat}{e:En}(h:Wo l t=some e):e∈l∧e.t=t:=by
 have hb:=Qi7 h;grind [Wo,Qrs]
theorem Jbg{l:List En}{t:Nat}{e:En}(h:Wo l t=some e)(a:Act):rd a e.t=a.tmps[e.t]?:=Qbx (by rw[(Kl h).2]; exact Qi7 h)
def J7q(l:List En)(g:Nat):Option En:=Qrr l (100000+g)
theorem Jh2(a:Act)(g:Nat):rd a (100000+g)=some (.pointer (some ⟨g,0,none⟩)):=by
 unfold rd
 have:Nat.blt (100000+g) 100000=false:=by
  cases hb:Nat.blt (100000+g) 100000 with
  | false=>rfl
  | true=>exact absurd (QV hb) (by omega)
 rw[this];simp
def Jzf:V5→Nat×Bool→Bool
 | [],_=>false
 | (t,b)::l,c=>(Nat.beq t c.1&&(b==c.2))||Jzf l c
theorem Jkv:∀{l:V5} {c:Nat×Bool},Jzf l c=true→c∈l
 | (t,b)::l,(u,v),h=>by
  simp only[Jzf,JZ,QQ]at h;rcases h with⟨h1,h2⟩ | h
  ·have:=Nat.eq_of_beq_eq_true h1
   grind
  ·exact .tail _ (Jkv h)
def Q6o:V5→V5→Bool
 | [],_=>true
 | c::l,cur=>Jzf cur c&&Q6o l cur
theorem Qls:∀{l cur:V5} {a:Act},Q6o l cur=true→J6 a cur→J6 a l
 | [],cur,a,_,_=>by intro c hc; cases hc
 | c::l,cur,a,h,hc=>by
  simp only[Q6o,QQ]at h;intro x hx;rcases QX.1 hx with rfl | hx
  ·exact hc _ (Jkv h.1)
  ·exact Qls h.2 hc x hx
def Qrt:Value→Option AV
 | .int k n=>some (.d (.int k) n)
 | .bool b=>some (.d .bool b)
 | .string ⟨⟨l⟩⟩=>some (.d .str l)
 | .slice none 0 0=>some .ns
 | .pointer none=>some .np
 | .map none=>some .nm
 | .nilFunc=>some .nf
 | _=>none
def Qxg:List Value→Option AV
 | []=>some .nil
 | v::l=>match Qrt v,Qxg l with
  | some x,some r=>some (.cons x r)
  | _,_=>none
def Q6p:Value→Option AV
 | .agg ⟨l⟩=>match Qxg l with
  | some r=>some (.ag r)
  | none=>none
 | v=>Qrt v
section
variable {β:Nat→Nat} {ρ:Nat→Value} {ok:Ok} {w:World}
theorem Qru{v:Value}{x:AV}(h:Qrt v=some x):cr β ρ ok w false x [v]∧x.val [v]=v:=by
 unfold Qrt at h;split at h<;>first | (simp at h; done) | skip
 all_goals
  simp only[Option.some.injEq]at h;subst h;exact⟨rfl,rfl⟩
theorem Q20:∀{l:List Value} {x:AV},Qxg l=some x→cr β ρ ok w false x l
 | [],x,h=>by simp[Qxg]at h; subst h; rfl
 | v::l,x,h=>by
  simp only[Qxg]at h;split at h
  ·rename_i y r h1 h2
   simp at h; subst h;exact⟨[v],l,rfl,(Qru h1).1,Q20 h2⟩
  ·cases h
theorem Qxh{v:Value}{x:AV}(h:Q6p v=some x):∃cs,v=x.val cs∧cr β ρ ok w false x cs:=by
 unfold Q6p at h;split at h
 ·rename_i l
  split at h
  ·rename_i r hr
   simp at h; subst h;exact⟨l,rfl,Q20 (x:=r) hr⟩
  ·cases h
 ·obtain⟨h1,h2⟩:=Qru (β:=β) (ρ:=ρ) (ok:=ok) (w:=w) h
  grind
end
def ev(S:St)(cur:V5):Operand→Option AV
 | .tmp t=>match Wo S.env t with
  | some e=>bif Q6o e.cs cur then some e.av else none
  | none=>none
 | .const v=>Q6p v
 | .func f=>some (.f f .nil)
 | .global g=>match J7q S.env g with
  | some e=>bif Q6o e.cs cur then some e.av else none
  | none=>none
def Qi8(t:Nat):V5→Bool
 | []=>false
 | c::l=>Nat.beq c.1 t||Qi8 t l
theorem Qi9{t:Nat}:∀{l:V5},Qi8 t l=false→∀c∈l,c.1≠t
 | [],_,c,hc=>by cases hc
 | d::l,h,c,hc=>by
  simp only[Qi8,JO]at h;rcases QX.1 hc with rfl | hc
  ·grind [Nat.beq_refl]
  ·exact Qi9 h.2 c hc
def Vw:List En→Nat→List En
 | [],_=>[]
 | e::l,t=>bif Nat.beq e.t t||Qi8 t e.cs then Vw l t else e::Vw l t
theorem Tu{l:List En}{t:Nat}{e:En}(h:e∈Vw l t):e∈l∧e.t≠t∧∀c∈e.cs,c.1≠t:=by
 induction l with
 | nil=>simp[Vw]at h
 | cons x l ih =>
  simp only[Vw]at h;cases hb:(Nat.beq x.t t||Qi8 t x.cs)with
  | true=>rw[hb]at h; grind
  | false =>
   rw[hb]at h;simp only[cond_false,QX]at h;rcases h with rfl | h
   ·simp only[JO]at hb
    exact⟨.head _,fun e=>by rw[e]at hb; simp_all,Qi9 hb.2⟩
   grind
def St.put(S:St)(d:Nat)(cs:V5)(x:AV):St:=⟨⟨d,cs,x⟩::Vw S.env d,S.mem⟩
def St.del(S:St)(d:Nat):St:=⟨Vw S.env d,S.mem⟩
section
variable {X:Cx} {β:Nat→Nat} {ρ:Nat→Value} {S:St} {a a':Act} {w w':World}
theorem Yq{ok:Ok}{w:World}:∀{D:List DF},Qpg ok w D↔∀d∈D,d.p ok w
 | []=>by simp[Qpg]
 | d::D=>by simp[Qpg,Yq (D:=D)]
theorem Rel.en(h:Rel X β ρ S a w){e:En}(he:e∈S.env):(enD β ρ a e).p (okR X β ρ S.mem w) w:=Yq.1 h.dat _ (QK.2 ⟨e,he,rfl⟩)
theorem Rel.get(h:Rel X β ρ S a w){t:Nat}{e:En}(he:Wo S.env t=some e)(hc:J6 a e.cs) :
  ∃cs,a.tmps[t]?=some (e.av.val cs)∧cr β ρ (okR X β ρ S.mem w) w false e.av cs:=by
 have hr:=Jbg he a;obtain⟨hm,rfl⟩:=Kl he;rw[←hr];exact(h.en hm).1 hc
theorem Rel.ev(h:Rel X β ρ S a w){cur:V5}(hc:J6 a cur){x:Operand}{v:AV}(hx:ev S cur x=some v) :
  ∃cs,a.eval x=v.val cs∧cr β ρ (okR X β ρ S.mem w) w false v cs:=by
 cases x with
 | tmp t =>
  simp only[Gx.ev]at hx;split at hx
  ·rename_i e he
   cases hb:Q6o e.cs cur with
   | false=>rw[hb]at hx; cases hx
   | true =>
    rw[hb]at hx;simp at hx; subst hx;obtain⟨cs,h1,h2⟩:=h.get he (Qls hb hc);exact⟨cs,by simp[Act.eval,h1],h2⟩
  ·cases hx
 | const v =>
  obtain⟨cs,h1,h2⟩:=Qxh (β:=β) (ρ:=ρ) (ok:=okR X β ρ S.mem w) (w:=w) hx;exact⟨cs,h1,h2⟩
 | func f =>
  simp[Gx.ev]at hx; subst hx;exact⟨[.func (.func f) #[] #[]],rfl,[],rfl,rfl⟩
 | global g =>
  simp only[Gx.ev]at hx;split at hx
  ·rename_i e he
   cases hb:Q6o e.cs cur with
   | false=>rw[hb]at hx; cases hx
   | true =>
    rw[hb]at hx;simp at hx; subst hx;obtain⟨hm,ht⟩:=Qrs he;obtain⟨cs,h1,h2⟩:=(h.en hm).1 (Qls hb hc);rw[ht,Jh2]at h1;exact⟨cs,Option.some.inj h1,h2⟩
  ·cases hx
theorem Rel.act(h:Rel X β ρ S a w){env':List En}(hs:a'.tmps.size=a.tmps.size)(hd:a'.defers=a.defers)(hr:∀t∈X.res,a'.tmps[t]?=a.tmps[t]?)
  (he:∀e∈env',(enD β ρ a' e).p (okR X β ρ S.mem w) w):Rel X β ρ ⟨env',S.mem⟩ a' w :=
 {sz:=hs.trans h.sz,df:=hd.trans h.df,fr:=fun t ht=>(hr t ht).trans (h.fr t ht),pn:=h.pn,tm:=by simp,bel:=h.bel,
  dat:=Yq.2 fun d hd=>by grind,
  obj:=h.obj,own:=h.own,dHH:=h.dHH,dHO:=h.dHO,dOO:=h.dOO }
theorem Vy{d t:Nat}(hne:t≠d)(v:Value):(a.put (some d) v).tmps[t]?=a.tmps[t]?:=by
 have:d≠t:=fun e=>hne e.symm;grind [Act.put]
theorem Qpr{d t:Nat}(hne:t≠d)(v:Value):rd (a.put (some d) v) t=rd a t:=by
 grind [rd,Vy]
theorem en_put(h:Rel X β ρ S a w){d:Nat}(v:Value){e:En}(he:e∈Vw S.env d):(enD β ρ (a.put (some d) v) e).p (okR X β ρ S.mem w) w:=by
 obtain⟨h1,h2,h3⟩:=Tu he;have hcc:J6 (a.put (some d) v) e.cs↔J6 a e.cs:=⟨fun hc c hm=>by rw[←Vy (h3 c hm) v]; exact hc c hm,fun hc c hm=>by rw[Vy (h3 c hm) v]; exact hc c hm⟩
 refine⟨fun hc=>?_,?_⟩
 ·obtain⟨cs,h4,h5⟩:=(h.en h1).1 (hcc.1 hc)
  grind [Qpr]
 ·rw[hcc,Qpr h2]; exact(h.en h1).2
theorem Rel.put(h:Rel X β ρ S a w){d:Nat}(hd:okD X d=true){cs:V5}{x:AV}{v:Value}
  (hx:J6 (a.put (some d) v) cs→∃c,v=x.val c∧cr β ρ (okR X β ρ S.mem w) w false x c) (hu:J6 (a.put (some d) v) cs∨v=undef):Rel X β ρ (S.put d cs x) (a.put (some d) v) w:=by
 refine h.act (by simp[Act.put]) rfl (fun k hk=>Vy (fun(e:k=d)=>Q6h hd (e▸hk)) v) fun e he=>?_;rcases QX.1 he with rfl | he
 ·refine⟨fun hc=>?_,hu.imp id fun e=>by rw[Qbx (Qlq hd)]; simp[Act.put,h.sz,Qw1 hd,e]⟩
  obtain⟨c,h1,h2⟩:=hx hc;exact⟨c,by rw[Qbx (Qlq hd)]; simp[Act.put,h.sz,Qw1 hd,h1],h2⟩
 ·exact en_put h v he
theorem Rel.del(h:Rel X β ρ S a w){d:Nat}(hd:okD X d=true)(v:Value):Rel X β ρ (S.del d) (a.put (some d) v) w :=
 h.act (by simp[Act.put]) rfl (fun k hk=>Vy (fun(e:k=d)=>Q6h hd (e▸hk)) v) fun e he=>en_put h v he
theorem Rel.less(h:Rel X β ρ S a w){env':List En}(he:∀e∈env',e∈S.env):Rel X β ρ ⟨env',S.mem⟩ a w :=
 h.act rfl rfl (fun _ _=>rfl) fun e hm=>h.en (he e hm)
theorem Qi(a:Act):J6 a []:=fun _ h=>by cases h
theorem Rel.put0(h:Rel X β ρ S a w){d:Nat}(hd:okD X d=true){x:AV}{c:List Value}(hx:cr β ρ (okR X β ρ S.mem w) w false x c):Rel X β ρ (S.put d [] x) (a.put (some d) (x.val c)) w :=
 h.put hd (fun _=>⟨c,rfl,hx⟩) (.inl (Qi _))
def Qk:List (Nat×Ob)→Nat→Option Ob
 | [],_=>none
 | q::l,t=>bif Nat.beq q.1 t then some q.2 else Qk l t
def Qps:List (Nat×Ob)→Nat→Ob→List (Nat×Ob)
 | [],_,_=>[]
 | q::l,t,o=>bif Nat.beq q.1 t then(t,o)::l else q::Qps l t o
def Ya:List (Nat×Ob)→Nat→List (Nat×Ob)
 | [],_=>[]
 | q::l,t=>bif Nat.beq q.1 t then l else q::Ya l t
theorem J8:∀{l:List (Nat×Ob)} {t:Nat} {o:Ob},Qk l t=some o→∃l1 l2,l=l1++(t,o)::l2∧(∀o',Qps l t o'=l1++(t,o')::l2)∧Ya l t=l1++l2
 | q::l,t,o,h=>by
  simp only[Qk]at h;cases hb:Nat.beq q.1 t with
  | true =>
   rw[hb]at h;simp at h;have:=Nat.eq_of_beq_eq_true hb;subst h; subst this;exact⟨[],l,rfl,fun o'=>by simp[Qps,hb],by simp[Ya,hb]⟩
  | false =>
   rw[hb]at h;obtain⟨l1,l2,h1,h2,h3⟩:=J8 h;grind [Qps,Ya]
theorem Rel.ob(h:Rel X β ρ S a w){id:Nat}{o:Ob}(ho:Qk S.mem id=some o) :
  (Jb β ρ id o).p (okR X β ρ S.mem w) w∧∀g,(Jb β ρ id o).blks g→X.mine g:=by
 obtain⟨l1,l2,h1,_⟩:=J8 ho;exact h.own _ (by rw[h1]; simp[Qq])
end
end Gx
